/- The contract of taken: how many of a map are later than a time. -/
import Derived.Test.YtgkbdoecpbepbaaMapsB
import Derived.Test.YtgkbdoecpbepbaaRows
import Derived.WalkKit
import Derived.WalkSpells
import Derived.WalkLawsBesides
import Derived.Lib.Hide
import Derived.Maps.Keyed
namespace Tide
theorem filt_step {p : Int → Bool} {x : Int} : ∀ {K : List Int}, K.Nodup → (K.filter (fun k => p k || (k == x))).length ≤ (K.filter p).length + 1 ∧ (x ∉ K → K.filter (fun k => p k || (k == x)) = K.filter p)
  | [], _ => ⟨by simp, fun _ => rfl⟩
  | a :: K, h => by
    obtain ⟨h1, h2⟩ := List.nodup_cons.1 h
    obtain ⟨i1, i2⟩ := filt_step (p := p) (x := x) h2
    by_cases e : a = x
    · subst e
      have := i2 h1
      refine ⟨?_, fun hn => absurd (by simp) hn⟩
      rw [List.filter_cons, if_pos (by simp), List.filter_cons, this]
      split <;> simp
    · have e' : (a == x) = false := by simp [e]
      refine ⟨?_, fun hn => ?_⟩
      · rw [List.filter_cons, List.filter_cons]
        by_cases c : p a = true
        · rw [if_pos (by simp [c]), if_pos c]; simp only [List.length_cons]; omega
        · rw [if_neg (by simp [c, e']), if_neg c]; exact i1
      · have hn2 : x ∉ K := fun hx => hn (by simp [hx])
        rw [List.filter_cons, List.filter_cons, i2 hn2]
        by_cases c : p a = true
        · rw [if_pos (by simp [c]), if_pos c]
        · rw [if_neg (by simp [c, e']), if_neg c]
end Tide
namespace Go.Proofs.Ytgkbdoecpbepbaa
open Go.RowKit Go.Maps
set_option linter.unusedVariables false
theorem tak_key : Keyed Try.prog 3 := int_keyed Try.underlying3
theorem owns_size {H : Type} {P : Program} {k : TypeId} {R : Value → Option (DataW H × List MemPlace)} {w : World} {b n : Nat} {D : DataW H} (h : w.ownsMap P k R b n D) : Maps.size D ≤ n := by
  obtain ⟨es, clock, _, _, hs, rfl⟩ := h
  show ((es.toList.map _).foldr DataW.insert []).length ≤ n
  rw [length_sorted]; simpa using hs
def TakPost (w : World) (K : List Int) (n : Nat) (e : Ending) (w' : World) : Prop := ∃ c : Nat, e = .returned (.int .i64 c) ∧ K.length ≤ c ∧ c ≤ n ∧ Below w.heap.size w w'
set_option maxRecDepth 100000 in
set_option maxHeartbeats 3200000 in
theorem queTaken (b n : Nat) (f : Int → Int) (now : Int) (K : List Int) (w : World) (hK : K.Nodup) (hf : ∀ k ∈ K, now < f k) (h0 : 0 ≤ now) (h : Tide.CntMap Try.prog 3 3 w b n f) (hn : n ≤ 1000) :
    Calls Try.prog 25 #[.map (some b), .int .i64 now] w (TakPost w K n) := by
  obtain ⟨D, h1, h2, h3⟩ := h
  have HO := Lib.hid h1; have H3 := Lib.hid h3; have HK := Lib.hid hK; have HF := Lib.hid hf
  have HSz := Lib.hid (owns_size h1)
  clear h1 hK hf
  go_enter Try.func25, Try.ntmps25
  go_wp2_with (at_range; refine wpList_range_own _ rfl _ 44 rfl 3 3 tak_key Try.underlying44 _ b n _ rfl HO.out ?_; intro w0 hrg0 hg0 hs0)
  go_frame
  have HC0 := Lib.hid ((Tide.Chg.refl (fun _ => False) w).grown hg0 (fun g hg => by cases hg))
  have HS0 := Lib.hid (show (K.filter (fun k => !(Maps.has D (.int .i64 k)))).length ≤ 0 by
    rw [Nat.le_zero, List.length_eq_zero_iff, List.filter_eq_nil_iff]
    intro k hk hh
    have hf := HF.out k hk
    have hh' : Maps.has D (.int .i64 k) = false := by simpa using hh
    have ha := h3 k
    rw [atKey_of_not_has hh'] at ha
    injection ha with e; injection e with _ e
    omega)
  go_loopw [5] (fun s wr => ∃ (left : Lit → Bool) (cnt c : Nat), wr.ranges Try.prog 3 (plainElem Try.prog 3) b w.heap.size n D left cnt ∧ s = .int .i64 c ∧ c + cnt ≤ n ∧ Hid ((K.filter (fun k => !(left (.int .i64 k)))).length ≤ c) ∧ Hid (Tide.Chg (fun _ => False) w wr)) (fun _ wr => wr.rangeLeft b w.heap.size)
  case atStart => exact ⟨_, _, 0, hrg0, rfl, by have := HSz.out; omega, HS0, HC0⟩
  case round =>
    clear hrg0 hg0 hs0 HC0 HS0
    obtain ⟨left, cnt, c, hrg, rfl, hcn, HL, HC⟩ := hrel
    go_wp2_with (at_next; refine wpList_next_ranges_ii _ rfl _ rfl 3 3 .i64 .i64 tak_key Try.underlying3 Try.underlying3 b w.heap.size n _ _ _ rfl hrg ?_ ?_)
    · intro hc0 hl0
      have HF2 := Lib.hid (show TakPost w K n (.returned (.int .i64 c)) wr from ⟨c, rfl, by
        have := HL.out
        rw [List.filter_eq_self.2 (fun k _ => by rw [hl0]; rfl)] at this
        exact this, by omega, HC.out.below (Nat.le_refl _) (fun _ _ h => h)⟩)
      go_wp2_with fail
      go_ret
      exact HF2.out
    · intro x y w1 cnt1 hwx hwc hlx hat hrg1 hlt hg1 hs1 hen
      have HC1 := Lib.hid (HC.out.grown hg1 (fun g hg => by cases hg; exact .inr (Nat.le_refl _)))
      have hfx : y = f x := by
        have := hat (.lit (.int .i64 0))
        rw [H3.out] at this
        injection this with e; injection e with _ e
        exact e.symm
      have hfl : (fun k : Int => !((fun z : Lit => left z && !z.sameKey (.int .i64 x)) (.int .i64 k))) = fun k : Int => (!(left (.int .i64 k))) || (k == x) := by
        funext k
        by_cases e : k = x
        · subst e; simp [Lit.sameKey]
        · have : (Lit.int .i64 k).sameKey (.int .i64 x) = false := sameKey_ne (fun c => e (by injection c))
          have e' : (k == x) = false := by simp [e]
          simp [this, e']
      obtain ⟨s1, s2⟩ := Tide.filt_step (p := fun k => !(left (.int .i64 k))) (x := x) HK.out
      by_cases hy : now < y
      · have HL1 := Lib.hid (show (K.filter (fun k => !((fun z : Lit => left z && !z.sameKey (.int .i64 x)) (.int .i64 k)))).length ≤ c + 1 by rw [hfl]; have := HL.out; omega)
        clear hfl s1 s2 hat hfx
        have hc1 : (c : Int) ≤ 1000 := by omega
        go_wp2_with fail
        go_roundw
        case rel => exact ⟨_, cnt1, c + 1, hrg1, by go_num, by omega, HL1, HC1⟩
        case measure => rw [hrg1.left_eq, hrg.left_eq]; exact hlt
      · have hnx : x ∉ K := fun hx => by have := HF.out x hx; omega
        have HL1 := Lib.hid (show (K.filter (fun k => !((fun z : Lit => left z && !z.sameKey (.int .i64 x)) (.int .i64 k)))).length ≤ c by rw [hfl, s2 hnx]; exact HL.out)
        clear hfl s1 s2 hat hfx
        have hy' : y ≤ now := by omega
        clear hy
        go_wp2_with fail
        go_roundw
        case rel => exact ⟨_, cnt1, c, hrg1, rfl, by omega, HL1, HC1⟩
        case measure => rw [hrg1.left_eq, hrg.left_eq]; exact hlt
end Go.Proofs.Ytgkbdoecpbepbaa
