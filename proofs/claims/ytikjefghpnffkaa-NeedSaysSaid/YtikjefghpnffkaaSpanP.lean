/- Plain laws of span.Edge: from now to the edge nothing turns. -/
import Derived.Test.YtikjefghpnffkaaSpanC
import Derived.Test.YtikjefghpnffkaaCronQ
namespace Go.Proofs.Ytikjefghpnffkaa
open Go.RowKit
set_option linter.unusedVariables false
def inAt (a b : Cr) (shift s : Int) : Bool := inO (a.seekO s shift (-1)) (b.seekO s shift (-1))
def edgeG (f : Int → Option Int) (g : Int → Bool) : Nat → Int → Option Int
  | 0, _ => none
  | k + 1, s => match f s with
    | none => none
    | some n => if g n then edgeG f g k n else some n
theorem edgeG_none {f : Int → Option Int} {g : Int → Bool} {k : Nat} {s : Int} (h : f s = none) : edgeG f g (k + 1) s = none := by
  unfold edgeG
  rw [h]
theorem edgeG_some {f : Int → Option Int} {g : Int → Bool} {k : Nat} {s n : Int} (h : f s = some n) : edgeG f g (k + 1) s = if g n then edgeG f g k n else some n := by
  show (match f s with
    | none => none
    | some n => if g n then edgeG f g k n else some n) = _
  rw [h]
def edgeO (a b : Cr) (shift : Int) (now : Bool) (k : Nat) (s : Int) : Option Int := edgeG (fun s => (if now then b else a).seekO s shift 1) (fun n => inAt a b shift n == now) k s
def edgeN (a b : Cr) (sec shift : Int) : Int := if spanE a b = 0 ∧ okTime sec shift then (edgeO a b shift (inAt a b shift sec) 200 sec).getD 0 else 0
def edgeB (a b : Cr) (sec shift : Int) : Bool := if spanE a b = 0 ∧ okTime sec shift then (edgeO a b shift (inAt a b shift sec) 200 sec).isSome else false
theorem spanE_ok {a b : Cr} (h : spanE a b = 0) : a.ok = true ∧ b.ok = true := by
  unfold spanE Cr.err at h
  cases ha : a.ok <;> cases hb : b.ok <;> rw [ha, hb] at h <;> first | exact ⟨rfl, rfl⟩ | (simp at h)
theorem spanInB_is {a b : Cr} {sec shift : Int} (h : spanE a b = 0) (ht : okTime sec shift) : spanInB a b sec shift = inAt a b shift sec := by
  obtain ⟨oa, ob⟩ := spanE_ok h
  unfold spanInB inAt
  rw [if_pos ⟨h, ht⟩]
  unfold Cr.seekB Cr.seekN
  have h1 : a.ok = true ∧ okTime sec shift := ⟨oa, ht⟩
  have h2 : b.ok = true ∧ okTime sec shift := ⟨ob, ht⟩
  rw [if_pos h1, if_pos h2, if_pos h2, if_pos h1]
  generalize a.seekO sec shift (-1) = x
  generalize b.seekO sec shift (-1) = y
  cases x <;> cases y <;> rfl
theorem spanInE_is {a b : Cr} {sec shift : Int} (h : spanE a b = 0) (ht : okTime sec shift) : spanInE a b sec shift = 0 := by
  unfold spanInE; rw [if_pos h, if_pos ht]
theorem Cr.up_time {c : Cr} {s shift n : Int} (ht : okTime s shift) (h : c.seekO s shift 1 = some n) : okTime n shift := by
  obtain ⟨t0, t1, t2, t3⟩ := ht
  obtain ⟨u1, u2, _⟩ := Cr.up_some ⟨t0, t1, t2, t3⟩ h
  exact ⟨by omega, u2, t2, t3⟩
theorem edgeO_zero (a b : Cr) (shift : Int) (now : Bool) (s : Int) : edgeO a b shift now 0 s = none := by unfold edgeO edgeG; rfl
theorem edgeO_none {a b : Cr} {shift : Int} {now : Bool} {k : Nat} {s : Int} (h : (if now then b else a).seekO s shift 1 = none) : edgeO a b shift now (k + 1) s = none := by unfold edgeO; exact edgeG_none h
theorem edgeO_some {a b : Cr} {shift : Int} {now : Bool} {k : Nat} {s n : Int} (h : (if now then b else a).seekO s shift 1 = some n) : edgeO a b shift now (k + 1) s = if (inAt a b shift n == now) = true then edgeO a b shift now k n else some n := by unfold edgeO; exact edgeG_some h
theorem edge_law {a b : Cr} (ha : a.fits) (hb : b.fits) (oa : a.ok = true) (ob : b.ok = true) {shift : Int} (now : Bool) (k : Nat) : ∀ (s n : Int), okTime s shift → inAt a b shift s = now → edgeO a b shift now k s = some n →
    s < n ∧ okTime n shift ∧ inAt a b shift n ≠ now ∧ ∀ t, s ≤ t → t < n → inAt a b shift t = now := by
  induction k with
  | zero => intro s n ht hi h; rw [edgeO_zero] at h; cases h
  | succ k ih =>
    intro s n ht hi h
    cases hq : (if now then b else a).seekO s shift 1 with
    | none => rw [edgeO_none hq] at h; cases h
    | some m =>
      rw [edgeO_some hq] at h
      have hm := Cr.up_time ht hq
      obtain ⟨u1, u2, u3, u4, u5⟩ := Cr.up_some ht hq
      have low : ∀ t, s ≤ t → t < m → inAt a b shift t = now := by
        intro t t0 t1
        have htt : okTime t shift := by obtain ⟨q0, q1, q2, q3⟩ := ht; exact ⟨by omega, by omega, q2, q3⟩
        have e := inO_same ha hb oa ob ht htt t0 (fun x x0 x1 => by
          rw [show inO (a.seekO s shift (-1)) (b.seekO s shift (-1)) = now from hi]
          exact u4 x x0 (by omega))
        exact e.trans hi
      by_cases hn : inAt a b shift m = now
      · rw [if_pos (by rw [hn]; simp)] at h
        obtain ⟨r1, r2, r3, r4⟩ := ih m n hm hn h
        refine ⟨by omega, r2, r3, fun t t0 t1 => ?_⟩
        rcases Int.lt_or_le t m with q | q
        · exact low t t0 q
        · exact r4 t q t1
      · rw [if_neg (by simpa using hn)] at h
        have e : m = n := by injection h
        subst e
        exact ⟨u1, hm, hn, low⟩
/-- what Edge tells -/
theorem edge_says {a b : Cr} (ha : a.fits) (hb : b.fits) (sec shift : Int) : (edgeB a b sec shift = false ∧ edgeN a b sec shift = 0 ∧ (spanInE a b sec shift = 0 ∨ spanInE a b sec shift = 1)) ∨
    (edgeB a b sec shift = true ∧ spanE a b = 0 ∧ okTime sec shift ∧ okTime (edgeN a b sec shift) shift ∧ sec < edgeN a b sec shift ∧ spanInB a b sec shift ≠ spanInB a b (edgeN a b sec shift) shift ∧ ∀ t, sec ≤ t → t < edgeN a b sec shift → spanInB a b t shift = spanInB a b sec shift) := by
  by_cases hg : spanE a b = 0 ∧ okTime sec shift
  · unfold edgeB edgeN
    rw [if_pos hg, if_pos hg]
    obtain ⟨oa, ob⟩ := spanE_ok hg.1
    cases hq : edgeO a b shift (inAt a b shift sec) 200 sec with
    | none => exact .inl ⟨rfl, rfl, .inl (spanInE_is hg.1 hg.2)⟩
    | some n =>
      obtain ⟨r1, r2, r3, r4⟩ := edge_law ha hb oa ob _ 200 sec n hg.2 rfl hq
      refine .inr ⟨rfl, hg.1, hg.2, r2, r1, ?_, fun t t0 t1 => ?_⟩
      · show _ ≠ spanInB a b n shift
        rw [spanInB_is hg.1 hg.2, spanInB_is hg.1 r2]; exact fun e => r3 e.symm
      · have htt : okTime t shift := by
          have t1' : t < n := t1
          obtain ⟨q0, q1, q2, q3⟩ := hg.2
          obtain ⟨p0, p1, p2, p3⟩ := r2
          exact ⟨by omega, by omega, q2, q3⟩
        rw [spanInB_is hg.1 htt, spanInB_is hg.1 hg.2]; exact r4 t t0 t1
  · left
    unfold edgeB edgeN
    rw [if_neg hg, if_neg hg]
    refine ⟨rfl, rfl, ?_⟩
    unfold spanInE
    by_cases h : spanE a b = 0
    · rw [if_pos h]; split
      · exact .inl rfl
      · exact .inr rfl
    · rw [if_neg h]; exact .inr rfl
end Go.Proofs.Ytikjefghpnffkaa
