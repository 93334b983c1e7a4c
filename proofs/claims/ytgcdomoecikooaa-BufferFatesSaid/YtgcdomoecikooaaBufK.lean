/- The plain law of BufferLate. -/
import Derived.Test.YtgcdomoecikooaaBufJ
namespace Go.Proofs.Ytgcdomoecikooaa
set_option linter.unusedVariables false

theorem ask_waits {l : List Tide.Req} {now src ticks : Int} (h : ∀ r ∈ l, r.fate = 1) : ∀ r ∈ Tide.askLst l now src ticks, r.fate = 1 := by
  unfold Tide.askLst
  split
  · intro r hr
    rcases List.mem_append.1 hr with hr | hr
    · exact h r hr
    · simp at hr; subst hr; rfl
  · exact h
theorem late_fate {l : List Tide.Req} {now : Int} (h : ∀ r ∈ l, r.fate = 1) {r : Tide.Req} (hr : r ∈ l) : (Tide.setF (Tide.isLate now) 4 r).fate = if r.till ≤ now then 4 else 1 := by
  have hf := h r hr
  unfold Tide.setF Tide.isLate
  by_cases ht : r.till ≤ now <;> simp [hf, ht]
theorem late_till (p : Tide.Req → Bool) (f : Int) (r : Tide.Req) : (Tide.setF p f r).till = r.till ∧ (Tide.setF p f r).id = r.id := by
  unfold Tide.setF; split <;> exact ⟨rfl, rfl⟩
/-- one of them, behind Late -/
theorem late_one {l : List Tide.Req} {now : Int} (h : ∀ r ∈ l, r.fate = 1) (hn : Tide.timeOk now = true) {r : Tide.Req} (hr : r ∈ Tide.lateLst l now) : (r.fate == 4) = decide (r.till ≤ now) ∧ (r.fate = 4 → r.id ∈ Tide.lateIds l now) := by
  unfold Tide.lateLst at hr
  rw [if_pos hn] at hr
  obtain ⟨q, hq, rfl⟩ := List.mem_map.1 hr
  have e := late_fate (now := now) h hq
  obtain ⟨e1, e2⟩ := late_till (Tide.isLate now) 4 q
  rw [e, e1, e2]
  refine ⟨by by_cases ht : q.till ≤ now <;> simp [ht], fun h4 => ?_⟩
  unfold Tide.lateIds Tide.idsF
  rw [if_pos hn]
  refine List.mem_map.2 ⟨q, List.mem_filter.2 ⟨hq, ?_⟩, rfl⟩
  by_cases ht : q.till ≤ now
  · unfold Tide.isLate; simp [ht, h q hq]
  · rw [if_neg ht] at h4; exact absurd h4 (by decide)
/-- and so many as told -/
theorem late_many {l : List Tide.Req} {now : Int} (h : ∀ r ∈ l, r.fate = 1) (hn : Tide.timeOk now = true) : (Tide.lateLst l now).countP (fun r => r.fate == 4) = (Tide.lateIds l now).length := by
  unfold Tide.lateLst Tide.lateIds Tide.idsF
  rw [if_pos hn, if_pos hn, List.length_map, List.countP_map, ← List.countP_eq_length_filter]
  refine List.countP_congr fun r hr => ?_
  have e := late_fate (now := now) h hr
  have hf := h r hr
  simp only [Function.comp]
  rw [e]
  unfold Tide.isLate
  by_cases ht : r.till ≤ now <;> simp [ht, hf]
end Go.Proofs.Ytgcdomoecikooaa
