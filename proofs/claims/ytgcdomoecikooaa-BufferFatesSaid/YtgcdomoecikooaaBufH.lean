/- The contracts of Late, Lost. -/
import Derived.Test.YtgcdomoecikooaaBufG
namespace Go.Proofs.Ytgcdomoecikooaa
open Go.RowKit
set_option linter.unusedVariables false

set_option maxRecDepth 100000 in
set_option maxHeartbeats 1600000 in
theorem bufLate1 (B : Nat) (now : Int) (r : Tide.Req) (W : World) (h : Tide.At W B 3 #[.int .i64 now]) :
    Calls Try.prog 52 #[.agg #[.int .i64 r.id, .int .i64 r.source, .int .i64 r.till, .int .i64 r.fate, .int .i64 r.pod], .pointer (some ⟨B, 0, none⟩)] W fun e W' => e = .returned (.bool (Tide.isLate now r)) ∧ Below W.heap.size W W' := by
  have hB := Lib.hid ((Below.refl W.heap.size W).alloc (Nat.le_refl _) (.cells #[.int .i64 r.id, .int .i64 r.source, .int .i64 r.till, .int .i64 r.fate, .int .i64 r.pod] 42))
  have hc : (W.alloc (.cells #[.int .i64 r.id, .int .i64 r.source, .int .i64 r.till, .int .i64 r.fate, .int .i64 r.pod] 42)).cell? ⟨B, 0, none⟩ = some (.int .i64 now) := (h.alloc _).here (i := 0) rfl
  have hc0 : W.cell? ⟨B, 0, none⟩ = some (.int .i64 now) := h.here (i := 0) rfl
  clear h
  cases hf : (r.fate == 1)
  · have HT := Lib.hid (show Tide.isLate now r = false by unfold Tide.isLate; rw [hf]; rfl)
    go_enter Try.func52, Try.ntmps52
    go_wp2_with fail
    go_ret
    exact ⟨by rw [HT.out] <;> rfl, hB.out⟩
  · by_cases ht : r.till ≤ now
    · have HT := Lib.hid (show Tide.isLate now r = true by unfold Tide.isLate; rw [hf]; simp [ht])
      go_enter Try.func52, Try.ntmps52
      go_wp2_with fail
      go_ret
      exact ⟨by rw [HT.out] <;> rfl, hB.out⟩
    · have HT := Lib.hid (show Tide.isLate now r = decide (r.till ≤ now) by unfold Tide.isLate; rw [hf]; rfl)
      clear ht
      go_enter Try.func52, Try.ntmps52
      go_wp2_with fail
      go_ret
      exact ⟨by rw [HT.out] <;> rfl, hB.out⟩
set_option maxRecDepth 100000 in
set_option maxHeartbeats 1600000 in
theorem bufLost1 (B : Nat) (pod : Int) (r : Tide.Req) (W : World) (h : Tide.At W B 3 #[.int .i64 pod]) :
    Calls Try.prog 55 #[.agg #[.int .i64 r.id, .int .i64 r.source, .int .i64 r.till, .int .i64 r.fate, .int .i64 r.pod], .pointer (some ⟨B, 0, none⟩)] W fun e W' => e = .returned (.bool (Tide.isLost pod r)) ∧ Below W.heap.size W W' := by
  have hB := Lib.hid ((Below.refl W.heap.size W).alloc (Nat.le_refl _) (.cells #[.int .i64 r.id, .int .i64 r.source, .int .i64 r.till, .int .i64 r.fate, .int .i64 r.pod] 42))
  have hc : (W.alloc (.cells #[.int .i64 r.id, .int .i64 r.source, .int .i64 r.till, .int .i64 r.fate, .int .i64 r.pod] 42)).cell? ⟨B, 0, none⟩ = some (.int .i64 pod) := (h.alloc _).here (i := 0) rfl
  have hc0 : W.cell? ⟨B, 0, none⟩ = some (.int .i64 pod) := h.here (i := 0) rfl
  clear h
  cases hf : (r.fate == 2)
  · have HT := Lib.hid (show Tide.isLost pod r = false by unfold Tide.isLost; rw [hf]; rfl)
    go_enter Try.func55, Try.ntmps55
    go_wp2_with fail
    go_ret
    exact ⟨by rw [HT.out] <;> rfl, hB.out⟩
  · cases ht : (r.pod == pod)
    · have HT := Lib.hid (show Tide.isLost pod r = false by unfold Tide.isLost; rw [hf, ht]; rfl)
      go_enter Try.func55, Try.ntmps55
      go_wp2_with fail
      go_ret
      exact ⟨by rw [HT.out] <;> rfl, hB.out⟩
    · have HT := Lib.hid (show Tide.isLost pod r = true by unfold Tide.isLost; rw [hf, ht]; rfl)
      go_enter Try.func55, Try.ntmps55
      go_wp2_with fail
      go_ret
      exact ⟨by rw [HT.out] <;> rfl, hB.out⟩

def LatePost (T : TypeId) (S : Nat → Prop) (w : World) (g : Nat) (v : Value) (l : List Tide.Req) (now : Int) (e : Ending) (w' : World) : Prop :=
  ∃ v', e = .returned (.tuple #[v', .int .i64 (Tide.lateErr now)]) ∧ Tide.OwnRow (fun b => w.heap.size ≤ b) w' 3 1 v' (Tide.lateIds l now).length ((Tide.lateIds l now).map (.int .i64)) ∧ BAt T S w' g v (Tide.lateLst l now) ∧ Tide.Chg S w w'
theorem late_no {T : TypeId} {S : Nat → Prop} {w w' : World} {g : Nat} {v : Value} {l : List Tide.Req} {now : Int} (h : BAt T S w' g v l) (hb : Below w.heap.size w w') (hn : Tide.timeOk now = false) : LatePost T S w g v l now (.returned (.tuple #[.slice none 0 0, .int .i64 1])) w' := by
  refine ⟨.slice none 0 0, by unfold Tide.lateErr; rw [hn]; rfl, ?_, ?_, Tide.Chg.of_below hb (Nat.le_refl _)⟩
  · unfold Tide.lateIds; rw [hn]; exact Tide.OwnRow.nil _ _ _ _
  · unfold Tide.lateLst; rw [hn]; exact h
theorem late_yes {T : TypeId} {S : Nat → Prop} {w w' : World} {ob : Obj} {g : Nat} {v v' : Value} {l : List Tide.Req} {now : Int} (hn : Tide.timeOk now = true) (ho : Tide.OwnRow (fun b => (w.alloc ob).heap.size ≤ b) w' 3 1 v' (Tide.idsF (Tide.isLate now) l).length ((Tide.idsF (Tide.isLate now) l).map (.int .i64))) (hb : BAt T S w' g v (l.map (Tide.setF (Tide.isLate now) 4))) (hc : Tide.Chg S (w.alloc ob) w') : LatePost T S w g v l now (.returned (.tuple #[v', .int .i64 0])) w' := by
  refine ⟨v', by unfold Tide.lateErr; rw [hn]; rfl, ?_, ?_, ((Tide.Chg.refl S w).alloc ob).trans hc⟩
  · unfold Tide.lateIds; rw [hn]; exact ho.mono fun b _ hb => by simp at hb; omega
  · unfold Tide.lateLst; rw [hn]; exact hb
set_option maxRecDepth 100000 in
set_option maxHeartbeats 3200000 in
theorem bufLate (S : Nat → Prop) (g : Nat) (v : Value) (l : List Tide.Req) (now : Int) (w : World) (h : BAt 74 S w g v l) :
    Calls Try.prog 12 #[.pointer (some ⟨g, 0, none⟩), .int .i64 now] w (LatePost 74 S w g v l now) := by
  have HH := Lib.hid (h.alloc (.cells #[.int .i64 now] 3))
  have HL := Lib.hid h.lim
  have HB := Lib.hid ((Below.refl w.heap.size w).alloc (Nat.le_refl _) (.cells #[.int .i64 now] 3))
  have HX := Lib.hid (Tide.At.made w 3 #[.int .i64 now])
  clear h
  by_cases h1 : now < 0
  · have HF := Lib.hid (late_no HH.out HB.out (show Tide.timeOk now = false by unfold Tide.timeOk; simp; omega))
    go_enter Try.func12, Try.ntmps12
    go_wp2_with fail
    go_ret2
    exact HF.out
  have h1' : 0 ≤ now := by omega
  clear h1
  by_cases h2 : 1099511627776 < now
  · have HF := Lib.hid (late_no HH.out HB.out (show Tide.timeOk now = false by unfold Tide.timeOk; simp; omega))
    go_enter Try.func12, Try.ntmps12
    go_wp2_with fail
    go_ret2
    exact HF.out
  have h2' : now ≤ 1099511627776 := by omega
  clear h2
  have HT := Lib.hid (show Tide.timeOk now = true by unfold Tide.timeOk; simp; omega)
  go_enter Try.func12, Try.ntmps12
  go_wp2_with fail
  refine (bufLate_end w.heap.size (Tide.isLate now) 4 S g v l _ HH.out (fun r W hW => bufLate1 _ now r W (HX.out.chg hW (fun hs => Nat.lt_irrefl _ (HL.out _ hs))))).mono ?_
  rintro e w1 ⟨v', rfl, ho, hb, hc⟩
  have HF := Lib.hid (late_yes HT.out ho hb hc)
  clear ho hb hc
  go_wp2_with fail
  go_ret2
  exact HF.out
def LostPost (T : TypeId) (S : Nat → Prop) (w : World) (g : Nat) (v : Value) (l : List Tide.Req) (pod : Int) (e : Ending) (w' : World) : Prop :=
  ∃ v', e = .returned v' ∧ Tide.OwnRow (fun b => w.heap.size ≤ b) w' 3 1 v' (Tide.idsF (Tide.isLost pod) l).length ((Tide.idsF (Tide.isLost pod) l).map (.int .i64)) ∧ BAt T S w' g v (Tide.lostLst l pod) ∧ Tide.Chg S w w'
set_option maxRecDepth 100000 in
set_option maxHeartbeats 3200000 in
theorem bufLost (S : Nat → Prop) (g : Nat) (v : Value) (l : List Tide.Req) (pod : Int) (w : World) (h : BAt 74 S w g v l) :
    Calls Try.prog 15 #[.pointer (some ⟨g, 0, none⟩), .int .i64 pod] w (LostPost 74 S w g v l pod) := by
  have HH := Lib.hid (h.alloc (.cells #[.int .i64 pod] 3))
  have HL := Lib.hid h.lim
  have HX := Lib.hid (Tide.At.made w 3 #[.int .i64 pod])
  clear h
  go_enter Try.func15, Try.ntmps15
  go_wp2_with fail
  refine (bufLost_end w.heap.size (Tide.isLost pod) 5 S g v l _ HH.out (fun r W hW => bufLost1 _ pod r W (HX.out.chg hW (fun hs => Nat.lt_irrefl _ (HL.out _ hs))))).mono ?_
  rintro e w1 ⟨v', rfl, ho, hb, hc⟩
  have HF := Lib.hid (show LostPost 74 S w g v l pod (.returned v') w1 from ⟨v', rfl, ho.mono fun b _ hb => by simp at hb; omega, hb, ((Tide.Chg.refl S w).alloc _).trans hc⟩)
  clear ho hb hc
  go_wp2_with fail
  go_ret
  exact HF.out
end Go.Proofs.Ytgcdomoecikooaa
