/- A loop stays right: plain laws. -/
import Derived.Test.YtcnoapogeohmkaaLopF
set_option linter.unusedVariables false
set_option linter.unusedSimpArgs false
namespace Go.Proofs.Ytcnoapogeohmkaa
open Go.RowKit
set_option linter.unusedVariables false
theorem Stb.ok_up {s : Tide.Stb} {j : Nat} (h : s.ok j) : s.ok (j + 1) := ⟨h.up, h.down, h.last0, h.last1, h.wan, h.mov, h.wsort, h.msort, by have := h.wlen; omega, by have := h.mlen; omega⟩
theorem newLp_ok {p : Pln} (h : planE p = 0) (hf : ∀ t ∈ p.trigs, t.fits) : (newLp p).ok 0 :=
  ⟨h, hf, newStb_ok p.up p.down, by show (0 : Int) ≤ 0; omega, by show (0 : Int) ≤ 0; omega, by show (0 : Int) ≤ _; omega, by show (0 : Int) ≤ 0; omega, by show (0 : Int) ≤ 0; omega, by show (List.replicate _ _).length = _; simp [newLp], by
    intro f hf
    have := List.eq_of_mem_replicate (show f ∈ List.replicate p.trigs.length 0 from hf)
    subst this; omega, by show (-1 : Int) ≤ -1 ∧ (-1 : Int) ≤ 50; omega⟩
theorem pause_ok {l : Lp} {j : Nat} (h : l.ok j) (n : Int) : (pauseL l n).ok j := by
  unfold pauseL
  split
  · exact h
  · exact ⟨h.plan, h.fits, h.st, h.sl, h.last0, h.last1, h.need0, h.need1, h.many, h.fail, by show -1 ≤ n ∧ n ≤ 50; omega⟩
theorem lookOk_iff {l : Lp} {now sec have0 : Int} {n : Nat} : lookOk l now sec have0 n = true ↔ l.last ≤ now ∧ now ≤ 1099511627776 ∧ -100000000000 ≤ sec ∧ sec ≤ 100000000000 ∧ 0 ≤ have0 ∧ have0 ≤ 50 ∧ n = l.p.trigs.length := by
  unfold lookOk; simp only [Bool.and_eq_true, decide_eq_true_eq]
theorem Lp.ok_up {l : Lp} {j : Nat} (h : l.ok j) : l.ok (j + 1) :=
  ⟨h.plan, h.fits, Stb.ok_up h.st, h.sl, h.last0, h.last1, h.need0, h.need1, h.many, fun f hf => by have := h.fail f hf; omega, h.paus⟩
theorem seen_ok {l : Lp} {j : Nat} {now : Int} {rs : List Rd} (h : l.ok j) (h0 : l.last ≤ now) (h1 : now ≤ 1099511627776) (hn : rs.length = l.p.trigs.length) : (l.seen now rs).ok (j + 1) :=
  ⟨h.plan, h.fits, Stb.ok_up h.st, by show l.s.last ≤ now; have := h.sl; omega, by show 0 ≤ now; have := h.last0; omega, h1, h.need0, by show l.needed ≤ now; have := h.need1; omega, failsL_length rfl hn h.many, failsL_bd h.fail, h.paus⟩
theorem settleS_last {s : Tide.Stb} {now have0 want : Int} (h : s.last ≤ now) : (Tide.settleS s now have0 want).last ≤ now := by
  unfold Tide.settleS
  split
  · split
    · exact Int.le_refl _
    · exact Int.le_refl _
  · exact h
theorem look_ok {l : Lp} {j : Nat} {now sec have0 : Int} {rs : List Rd} {busy : Bool} (h : l.ok j) : (lookL l now sec have0 rs busy).ok (j + 1) := by
  unfold lookL
  cases hk : lookOk l now sec have0 rs.length
  · rw [if_pos rfl]; exact Lp.ok_up h
  · obtain ⟨h0, h1, _, _, _, _, hn⟩ := lookOk_iff.1 hk
    rw [if_neg (by simp)]
    have hs := seen_ok (rs := rs) h h0 h1 hn
    split
    · exact hs
    · generalize (l.seen now rs).wish now sec have0 rs busy = x
      have hst := settle_ok (now := now) (have0 := have0) (want := x) h.st
      have hsl := settleS_last (have0 := have0) (want := x) (show l.s.last ≤ now by have := h.sl; omega)
      have hn0 : 0 ≤ now := by have := h.last0; omega
      cases ((l.seen now rs).told sec have0 rs busy).2
      · exact ⟨hs.plan, hs.fits, hst, hsl, hs.last0, hs.last1, hs.need0, hs.need1, hs.many, hs.fail, hs.paus⟩
      · exact ⟨hs.plan, hs.fits, hst, hsl, hs.last0, hs.last1, hn0, Int.le_refl _, hs.many, hs.fail, hs.paus⟩
theorem marked_p (l : Lp) (now : Int) (b : Bool) : (l.marked now b).p = l.p := by cases b <;> rfl
theorem lookL_p (l : Lp) (now sec have0 : Int) (rs : List Rd) (busy : Bool) : (lookL l now sec have0 rs busy).p = l.p := by
  unfold lookL
  split
  · rfl
  · split
    · rfl
    · exact marked_p _ _ _
theorem pauseL_p (l : Lp) (n : Int) : (pauseL l n).p = l.p := by unfold pauseL; split <;> rfl
end Go.Proofs.Ytcnoapogeohmkaa
