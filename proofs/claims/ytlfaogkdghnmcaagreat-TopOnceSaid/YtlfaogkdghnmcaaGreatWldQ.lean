/- What TopOnce's two maps hold; the size of a request's pod and fate. -/
import Derived.Test.YtlfaogkdghnmcaaGreatWldO
set_option linter.unusedVariables false
set_option linter.unusedSimpArgs false
namespace Go.Proofs.YtlfaogkdghnmcaaGreat
open Go.RowKit
def Sized (fl : Int) (r : Tide.Req) : Prop := (1 ≤ r.fate ∧ r.fate ≤ 5) ∧ 0 ≤ r.pod ∧ r.pod ≤ fl
theorem sized_step {most : Int} (x y : Bp) (h1 : Tide.Fair x.b) (h2 : Tide.Crewed x.f x.fl most) (hP : ∀ r ∈ x.b, Sized x.fl r) (k : El most x y) : ∀ r ∈ y.b, Sized y.fl r := by
  cases k with
  | ask b f fl now s n h =>
    intro r hr
    simp only at hr hP h2 ⊢
    unfold Tide.askLst at hr
    rw [if_pos h, List.mem_append] at hr
    rcases hr with hr | hr
    · exact hP r hr
    · simp at hr; subst hr
      exact ⟨⟨by simp, by simp⟩, by simp, h2.last0⟩
  | late b f fl now t0 t1 =>
    intro r hr
    simp only at hr hP ⊢
    unfold Tide.lateLst at hr
    split at hr
    · rw [List.mem_map] at hr
      obtain ⟨q, hq, rfl⟩ := hr
      have := hP q hq
      unfold Tide.setF
      split
      · exact ⟨⟨by simp, by simp⟩, this.2⟩
      · exact this
    · exact hP r hr
  | run b f fl now h =>
    intro r hr
    simp only at hr hP h2 ⊢
    obtain ⟨g1, g2⟩ := goes_two h
    obtain ⟨i, p, hp, hid, _⟩ := give_ok g2
    obtain ⟨jj, q, e1, _, e3, _, _, _, e4⟩ := Tide.run_next h1.num g1 (Tide.giveNum f most)
    rw [e4] at hr
    rcases List.mem_or_eq_of_mem_set hr with hr | rfl
    · exact hP r hr
    · have := h2.ids p (List.mem_of_getElem? hp)
      exact ⟨⟨by simp, by simp⟩, by simp only; omega, by simp only; omega⟩
  | done b f fl now n h =>
    intro r hr
    simp only at hr hP ⊢
    unfold Tide.doneLst at hr
    split at hr
    · exact hP r hr
    · rename_i q hq
      have hm := hP q (List.mem_of_getElem? (Tide.reqAt_get hq))
      split at hr
      · rcases List.mem_or_eq_of_mem_set hr with hr | rfl
        · exact hP r hr
        · exact ⟨⟨by simp, by simp⟩, hm.2⟩
      · exact hP r hr
  | crash b f fl now n h =>
    intro r hr
    simp only at hr hP ⊢
    unfold Tide.lostLst at hr
    rw [List.mem_map] at hr
    obtain ⟨q, hq, rfl⟩ := hr
    have hm := hP q hq
    unfold Tide.setF
    split
    · exact ⟨⟨by simp, by simp⟩, hm.2⟩
    · exact hm
  | turn b f fl now n src dst h => exact hP
  | scale b f fl now n =>
    intro r hr
    have := hP r hr
    refine ⟨this.1, this.2.1, ?_⟩
    have h3 := this.2.2
    simp only at h3 ⊢
    unfold Tide.scaleLast; omega
theorem sized_do {m : Wo} {j : Nat} (h : m.ok j) (hP : ∀ r ∈ m.b, Sized m.fl r) (k a n : Int) : ∀ r ∈ (doW m k a n).b, Sized (doW m k a n).fl r :=
  do_inv (fun x => ∀ r ∈ x.b, Sized x.fl r) (fun x y => sized_step x y) h hP k a n
/-- the map f holds e of the requests: of the list b as far as i, behind it of the list a -/
def Mix (e : Tide.Req → Int) (i : Nat) (a b : List Tide.Req) (f : Int → Int) : Prop := ∀ k : Nat, f ((k : Int) + 1) = (if k < i then b[k]? else a[k]?).elim 0 e
def podE (r : Tide.Req) : Int := r.pod
def endE (r : Tide.Req) : Int := if 3 ≤ r.fate then r.fate else 0
section
variable {e : Tide.Req → Int} {i : Nat} {a b c : List Tide.Req} {f : Int → Int} {r : Tide.Req}
theorem mix_new : Mix e 0 [] [] (fun _ => 0) := fun k => by simp
theorem mix_start (h : Mix e 0 a b f) : Mix e 0 a c f := fun k => by rw [h k]; simp
theorem mix_end (h : Mix e b.length a b f) (hl : a.length ≤ b.length) : Mix e 0 b c f := fun k => by
  rw [h k, if_neg (Nat.not_lt_zero k)]
  by_cases d : k < b.length
  · rw [if_pos d]
  · rw [if_neg d, List.getElem?_eq_none (by omega), List.getElem?_eq_none (by omega)]
theorem mix_look (h : Mix e i a b f) (ho : Onces a b) (he : ∀ x, Once x r → e x = 0 ∨ e x = e r) (hr : b[i]? = some r) (hid : r.id = (i : Int) + 1) : f r.id = 0 ∨ f r.id = e r := by
  rw [hid, h i, if_neg (Nat.lt_irrefl i)]
  cases ha : a[i]? with
  | none => exact .inl rfl
  | some x =>
    obtain ⟨r', h1, h2⟩ := ho.2 i x ha
    rw [hr] at h1; cases h1
    exact he x h2
theorem mix_put (h : Mix e i a b f) (hr : b[i]? = some r) (hid : r.id = (i : Int) + 1) {v : Int} (hv : v = e r) : Mix e (i + 1) a b (fun j => if j = r.id then v else f j) := fun k => by
  subst hv
  show (if (k : Int) + 1 = r.id then e r else f ((k : Int) + 1)) = _
  by_cases d : k = i
  · subst d; rw [if_pos hid.symm, if_pos (Nat.lt_succ_self k), hr]; rfl
  · rw [if_neg (by omega), h k]
    by_cases d2 : k < i
    · rw [if_pos d2, if_pos (by omega)]
    · rw [if_neg d2, if_neg (by omega)]
theorem mix_skip (h : Mix e i a b f) (hr : b[i]? = some r) (hid : r.id = (i : Int) + 1) (hf : f r.id = e r) : Mix e (i + 1) a b f := fun k => by
  by_cases d : k = i
  · subst d; rw [← hid, hf, if_pos (Nat.lt_succ_self k), hr]; rfl
  · rw [h k]
    by_cases d2 : k < i
    · rw [if_pos d2, if_pos (by omega)]
    · rw [if_neg d2, if_neg (by omega)]
theorem once_pod {x : Tide.Req} (h : Once x r) : podE x = 0 ∨ podE x = podE r := h.2.2.1.imp id (fun e => e.symm)
theorem once_end {x : Tide.Req} (h : Once x r) : endE x = 0 ∨ endE x = endE r := by
  unfold endE
  by_cases d : 3 ≤ x.fate
  · rw [if_pos d, h.2.2.2 d, if_pos d]; exact .inr rfl
  · rw [if_neg d]; exact .inl rfl
end
/-- what TopOnce keeps from round to round -/
structure OcW (m : Wo) (f g : Int → Int) : Prop where
  late : ∀ r ∈ m.b, LateOk m.now r
  led : Led m.b
  sized : ∀ r ∈ m.b, Sized m.fl r
  pods : Mix podE 0 m.b [] f
  ends : Mix endE 0 m.b [] g
/-- and behind a happening, i of the requests told -/
structure OcI (m : Wo) (a : List Tide.Req) (i : Nat) (f g : Int → Int) : Prop where
  late : ∀ r ∈ m.b, LateOk m.now r
  led : Led m.b
  sized : ∀ r ∈ m.b, Sized m.fl r
  onces : Onces a m.b
  num : Tide.Numbered m.b
  pods : Mix podE i a m.b f
  ends : Mix endE i a m.b g
theorem onW_new (p : Pln) (parts most sec : Int) : OcW (newWo p parts most sec) (fun _ => 0) (fun _ => 0) := ⟨fun r hr => (by cases hr), fun i r hr => (by simp [newWo] at hr), fun r hr => (by cases hr), mix_new, mix_new⟩
theorem OcW.step {m : Wo} {f g : Int → Int} {j : Nat} (h : OcW m f g) (hk : m.ok j) (k a n : Int) : OcI (doW m k a n) m.b 0 f g :=
  ⟨lateOk_do hk h.late k a n, led_do hk h.led k a n, sized_do hk h.sized k a n, onces_do hk h.late k a n, (ok_do hk k a n).fair.num, mix_start h.pods, mix_start h.ends⟩
theorem OcI.done {m : Wo} {a : List Tide.Req} {f g : Int → Int} (h : OcI m a m.b.length f g) : OcW m f g := ⟨h.late, h.led, h.sized, mix_end h.pods h.onces.1, mix_end h.ends h.onces.1⟩
end Go.Proofs.YtlfaogkdghnmcaaGreat
