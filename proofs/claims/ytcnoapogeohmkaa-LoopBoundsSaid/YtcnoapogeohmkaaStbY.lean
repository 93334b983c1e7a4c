/- A Stable without windows and paces tells what is wanted: plain. -/
import Derived.Test.YtcnoapogeohmkaaStbF
set_option linter.unusedVariables false
set_option linter.unusedSimpArgs false
namespace Go.Proofs.Ytcnoapogeohmkaa
open Go.RowKit
set_option linter.unusedVariables false
theorem behind_none {l : List Tide.Mark} {t : Int} (h : ∀ m ∈ l, m.1 ≤ t) : Tide.behindL l t = [] := by
  rw [Tide.behind_eq (i := l.length) (Nat.le_refl _) (by simp) ?_]
  · simp
  · rcases Nat.eq_zero_or_pos l.length with h0 | h0
    · exact .inl h0
    · obtain ⟨m, hm⟩ := Tide.get_some l (show l.length - 1 < l.length by omega)
      exact .inr ⟨m, hm, h m (List.mem_of_getElem? hm)⟩
/-- neither windows nor paces -/
def Free (s : Tide.Stb) : Prop := s.up.win = 0 ∧ s.down.win = 0 ∧ s.up.limited = false ∧ s.down.limited = false
theorem free_next {s : Tide.Stb} {now have0 want : Int} (h : Free s) : Free (Tide.settleS s now have0 want) := by
  unfold Tide.settleS
  split
  · split <;> exact h
  · exact h
theorem free_says {s : Tide.Stb} {j : Nat} {now have0 want : Int} (h : s.ok j) (hf : Free s) (hk : Tide.settleOk s now have0 want = true) : Tide.settleN s now have0 want = want := by
  obtain ⟨f1, f2, f3, f4⟩ := hf
  have e : Tide.settleN s now have0 want = Tide.settleN0 (s.seen now want) now have0 want := by unfold Tide.settleN; rw [hk]; rfl
  have h1 := Stb.ok_seen h hk
  have g1 : Tide.behindL (s.seen now want).wanted (now - (s.seen now want).up.win) = [] := behind_none fun m hm => by
    have := (h1.wan m hm).2.2
    show m.1 ≤ now - s.up.win
    rw [f1]; have : m.1 ≤ now := this; omega
  have g2 : Tide.behindL (s.seen now want).wanted (now - (s.seen now want).down.win) = [] := behind_none fun m hm => by
    have := (h1.wan m hm).2.2
    show m.1 ≤ now - s.down.win
    rw [f2]; have : m.1 ≤ now := this; omega
  rw [e]
  unfold Tide.settleN0
  split
  · unfold Tide.moreN
    rw [g1, show (s.seen now want).up.limited = false from f3]
    show max want have0 = want
    omega
  · split
    · unfold Tide.fewerN
      rw [g2, show (s.seen now want).down.limited = false from f4]
      show min want have0 = want
      omega
    · omega
end Go.Proofs.Ytcnoapogeohmkaa
