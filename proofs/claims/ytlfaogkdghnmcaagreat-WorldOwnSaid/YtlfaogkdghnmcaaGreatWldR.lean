/- A world: what is read of it. -/
import Derived.Test.YtlfaogkdghnmcaaGreatWldF
set_option linter.unusedVariables false
set_option linter.unusedSimpArgs false
namespace Go.Proofs.YtlfaogkdghnmcaaGreat
open Go.RowKit
section
variable {R : Nat → Prop} {p : Wp} {m : Wo} {w : World}
set_option maxHeartbeats 800000 in
theorem woNow (h : WoN R w p m) : Calls Tryz.prog 23 #[.pointer (some ⟨p.g, 0, none⟩)] w fun e w' => e = .returned (.int .i64 m.now) ∧ w = w' := by
  have x8 := h.at.here (i := 8) rfl
  clear h
  go_enter Tryz.func23, Tryz.ntmps23
  go_wp2_with fail
  go_ret
  exact ⟨rfl, rfl⟩
set_option maxHeartbeats 800000 in
theorem woTarget (h : WoN R w p m) : Calls Tryz.prog 19 #[.pointer (some ⟨p.g, 0, none⟩)] w fun e w' => e = .returned (.int .i64 m.target) ∧ w = w' := by
  have x9 := h.at.here (i := 9) rfl
  clear h
  go_enter Tryz.func19, Tryz.ntmps19
  go_wp2_with fail
  go_ret
  exact ⟨rfl, rfl⟩
set_option maxRecDepth 100000 in
set_option maxHeartbeats 800000 in
theorem woPodsOf (h : WoN R w p m) : Calls Tryz.prog 20 #[.pointer (some ⟨p.g, 0, none⟩)] w (FleAllPost w m.f) := by
  have x3 := h.at.here (i := 3) rfl
  have HH := Lib.hid h
  clear h
  go_enter Tryz.func20, Tryz.ntmps20
  go_wp2_with fail
  refine (woPods _ HH.out).mono ?_
  rintro e w2 ⟨v, rfl, ho, hb⟩
  obtain ⟨A, cap, rfl, _, _, _⟩ := ho.slice
  have HO := Lib.hid ho; have HB := Lib.hid hb
  clear ho hb x3
  go_wp2_with fail
  go_ret
  exact ⟨_, rfl, HO.out, HB.out⟩
set_option maxRecDepth 100000 in
set_option maxHeartbeats 800000 in
theorem woReqsOf (h : WoN R w p m) : Calls Tryz.prog 21 #[.pointer (some ⟨p.g, 0, none⟩)] w (BufAllPost w m.b) := by
  have x4 := h.at.here (i := 4) rfl
  have HH := Lib.hid h
  clear h
  go_enter Tryz.func21, Tryz.ntmps21
  go_wp2_with fail
  refine (woReqs _ HH.out).mono ?_
  rintro e w2 ⟨v, rfl, ho, hb⟩
  obtain ⟨A, cap, rfl, _, _, _⟩ := ho.slice
  have HO := Lib.hid ho; have HB := Lib.hid hb
  clear ho hb x4
  go_wp2_with fail
  go_ret
  exact ⟨_, rfl, HO.out, HB.out⟩
set_option maxRecDepth 100000 in
set_option maxHeartbeats 800000 in
theorem woLagsOf (h : WoN R w p m) (hs : Small m.t) : Calls Tryz.prog 34 #[.pointer (some ⟨p.g, 0, none⟩)] w (LagsPost w (lagsOf m.t)) := by
  have x1 := h.at.here (i := 1) rfl
  have HH := Lib.hid h; have HS := Lib.hid hs
  clear h hs
  go_enter Tryz.func34, Tryz.ntmps34
  go_wp2_with fail
  refine (woLags _ HH.out HS.out).mono ?_
  rintro e w2 ⟨v, rfl, ho, hb⟩
  obtain ⟨A, cap, rfl, _, _, _⟩ := (Tide.OwnRow.of_owns (S := fun _ => True) ho (fun _ _ => trivial)).slice
  have HO := Lib.hid ho; have HB := Lib.hid hb
  clear ho hb x1
  go_wp2_with fail
  go_ret
  exact ⟨_, rfl, HO.out, HB.out⟩
def MsgsPost (R : Nat → Prop) (w : World) (p : Wp) (m : Wo) (e : Ending) (w' : World) : Prop :=
  ∃ v', e = .returned v' ∧ Tide.OwnRow (fun b => w.heap.size ≤ b) w' 65 3 v' (Tide.allLst m.q m.now).length ((Tide.allLst m.q m.now).flatMap Tide.Msg.enc) ∧ WoN (fun b => R b ∨ (w.heap.size ≤ b ∧ b < w'.heap.size)) w' p { m with q := Tide.nowLst m.q m.now } ∧ Tide.Chg (fun b => ¬ R b) w w'
set_option maxRecDepth 100000 in
set_option maxHeartbeats 1600000 in
theorem woMsgsOf (h : WoN R w p m) : Calls Tryz.prog 28 #[.pointer (some ⟨p.g, 0, none⟩)] w (MsgsPost R w p m) := by
  have x2 := h.at.here (i := 2) rfl
  have x8 := h.at.here (i := 8) rfl
  have HH := Lib.hid h
  clear h
  go_enter Tryz.func28, Tryz.ntmps28
  go_wp2_with fail
  go_region_held3 (fun w' => w'.cell? ⟨p.g, 2, none⟩ = some (.pointer (some ⟨p.gq, 0, none⟩)) ∧ w'.cell? ⟨p.g, 8, none⟩ = some (.int .i64 m.now)) (first | exact ⟨y2, y8⟩ | go_keep) ((go_at_call 68; refine (woMsgs m.now _ HH.out.drew).mono ?_; rintro e w2 ⟨⟨v, rfl, ho⟩, hn, hc⟩; obtain ⟨A, cap, rfl, _, _, _⟩ := ho.slice; have HO := Lib.hid ho; have HN := Lib.hid hn; have HC := Lib.hid hc; have y2 := hn.at.here (i := 2) rfl; have y8 := hn.at.here (i := 8) rfl))
  all_goals
    clear ho hn hc y2 y8
    go_wp2_with fail
    go_ret
    exact ⟨_, rfl, HO.out, HN.out, (Tide.Chg.refl _ _).drew.trans HC.out⟩
end
end Go.Proofs.YtlfaogkdghnmcaaGreat
