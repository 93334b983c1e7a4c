/- What a world does first in the laws of tidekeep; ticks at once are ticks one by one: plain facts. -/
import Derived.Test.YtlfaogkdghnmcaaGreatTpM
set_option linter.unusedVariables false
set_option linter.unusedSimpArgs false
namespace Go.Proofs.YtlfaogkdghnmcaaGreat
open Go.RowKit
def worksL : List (List Int) := [[11, 1, 50], [1, 0, 2], [8, 0, 1], [9, 0, 1]]
theorem works_nums : (playW (newWo plainP 1 2 0) worksL).target = 1 ∧ ((playW (newWo plainP 1 2 0) worksL).b.map fun r => (r.fate, r.pod)) = [(2, 1)] ∧ doE (playW (newWo plainP 1 2 0) worksL) 12 0 1 = 0 ∧ ((doW (playW (newWo plainP 1 2 0) worksL) 12 0 1).b.map fun r => r.fate) = [3] := by decide +kernel
theorem works_facts : ∃ (m mz : Wo) (r rz : Tide.Req), playW (newWo plainP 1 2 0) worksL = m ∧ m.target = 1 ∧ m.b = [r] ∧ r.fate = 2 ∧ r.pod = 1 ∧ doE m 12 0 1 = 0 ∧ doW m 12 0 1 = mz ∧ mz.b = [rz] ∧ rz.fate = 3 ∧ m.ok 4000 := by
  obtain ⟨h1, h2, h3, h4⟩ := works_nums
  have hok := ok_play plain_ok worksL
  generalize playW (newWo plainP 1 2 0) worksL = m at h1 h2 h3 h4 hok
  obtain ⟨r, hr⟩ := List.length_eq_one_iff.1 (show m.b.length = 1 by have := congrArg List.length h2; simpa using this)
  obtain ⟨rz, hrz⟩ := List.length_eq_one_iff.1 (show (doW m 12 0 1).b.length = 1 by have := congrArg List.length h4; simpa using this)
  rw [hr] at h2
  rw [hrz] at h4
  simp at h2 h4
  exact ⟨m, _, r, rz, rfl, h1, hr, h2.1, h2.2, h3, rfl, hrz, h4, hok⟩
theorem do_now {m : Wo} {j : Nat} (h : m.ok j) (k a n : Int) : (doW m k a n).now ≤ m.now + 1000 := by
  refine doW_elim (fun x => x.now ≤ m.now + 1000) (by omega) (fun _ he => ?_) (fun _ => ?_) (fun _ => ?_) (fun _ => ?_) (fun _ => ?_) (fun _ => ?_) (fun _ _ => ?_) (fun _ => ?_) (fun _ _ => ?_) (fun _ _ => ?_) (fun _ _ => ?_) (fun _ _ => ?_) (fun _ => ?_)
  · obtain ⟨h1, h2, h3⟩ := tickE_ok he
    rw [ticks_now]; omega
  all_goals (show m.now ≤ m.now + 1000; omega)
theorem play_now {m : Wo} {j : Nat} (h : m.ok j) (l : List (List Int)) : (playW m l).now ≤ m.now + 1000 * l.length := by
  induction l generalizing m j with
  | nil => show m.now ≤ _; simp
  | cons r l ih =>
    have h1 := do_now h (r.getD 0 0) (r.getD 1 0) (r.getD 2 0)
    have h2 := ih (ok_do h (r.getD 0 0) (r.getD 1 0) (r.getD 2 0))
    show (playW (doW m _ _ _) l).now ≤ _
    rw [List.length_cons]
    omega
theorem ticks_once {m : Wo} {n : Nat} (h1 : 1 ≤ n) (h2 : n ≤ 1000) (h3 : m.now + n ≤ 1099511627776) : doW m 1 0 n = ticksN n m := by
  have e : tickE m n = 0 := by unfold tickE; rw [if_neg (by omega)]
  have e1 : doW m 1 0 n = if tickE m n = 0 then ticksN (n : Int).toNat m else m := rfl
  rw [e1, if_pos e, Int.toNat_natCast]
theorem ticks_one {m : Wo} (h3 : m.now + 1 ≤ 1099511627776) : doW m 1 0 1 = m.tick := ticks_once (n := 1) (by omega) (by omega) (by omega)
end Go.Proofs.YtlfaogkdghnmcaaGreat
