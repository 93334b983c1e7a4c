/- The contracts of the reference's Board. -/
import Derived.Test.YtgkbdoecpbepbaaTopD
import Derived.Test.YtgkbdoecpbepbaaInC
namespace Go.Proofs.Ytgkbdoecpbepbaa
open Go.RowKit
set_option linter.unusedVariables false

theorem refIn_true (n lo hi : Int) (w : World) (h0 : lo ≤ n) (h1 : n ≤ hi) : Calls Try.prog 13 #[.int .i64 n, .int .i64 lo, .int .i64 hi] w fun e w' => e = .returned (.bool true) ∧ w' = w :=
  (refIn_yes n lo hi w h0 h1).mono fun _ _ ⟨a, b⟩ => ⟨a, b.symm⟩
theorem refIn_false (n lo hi : Int) (w : World) (h : n < lo ∨ hi < n) : Calls Try.prog 13 #[.int .i64 n, .int .i64 lo, .int .i64 hi] w fun e w' => e = .returned (.bool false) ∧ w' = w :=
  (refIn_no n lo hi w h).mono fun _ _ ⟨a, b⟩ => ⟨a, b.symm⟩

/-- a board: its own block g, the ends in block p, the offsets in block q -/
structure BoardAt (w : World) (g p q : Nat) (l : List (Int × Int)) : Prop where
  head : Tide.At w g 31 #[.slice (some ⟨p, 0, none⟩) l.length l.length, .slice (some ⟨q, 0, none⟩) l.length l.length]
  ends : Tide.At w p 3 (l.map fun x => Value.int .i64 x.1).toArray
  offs : Tide.At w q 3 (l.map fun x => Value.int .i64 x.2).toArray
  small : l.length ≤ 20
  other : p ≠ q
theorem BoardAt.apart {w : World} {g p q : Nat} {l : List (Int × Int)} (h : BoardAt w g p q l) : g ≠ p ∧ g ≠ q := ⟨h.head.apart h.ends (by decide), h.head.apart h.offs (by decide)⟩
theorem map_set1 (l : List (Int × Int)) (k : Nat) (e o e' : Int) (h : l[k]? = some (e, o)) :
    (l.map fun x => Value.int .i64 x.1).set k (.int .i64 e') = (l.set k (e', o)).map (fun x => Value.int .i64 x.1) ∧ (l.map fun x => Value.int .i64 x.2) = (l.set k (e', o)).map (fun x => Value.int .i64 x.2) := by
  constructor
  · rw [List.map_set]
  · apply List.ext_getElem?
    intro i
    simp only [List.getElem?_map, List.getElem?_set]
    split
    · rename_i c; subst c
      split
      · rw [h]; rfl
      · rename_i hc; rw [List.getElem?_eq_none (by omega)]
    · rfl
theorem map_set2 (l : List (Int × Int)) (k : Nat) (e o o' : Int) (h : l[k]? = some (e, o)) :
    (l.map fun x => Value.int .i64 x.2).set k (.int .i64 o') = (l.set k (e, o')).map (fun x => Value.int .i64 x.2) ∧ (l.map fun x => Value.int .i64 x.1) = (l.set k (e, o')).map (fun x => Value.int .i64 x.1) := by
  constructor
  · rw [List.map_set]
  · apply List.ext_getElem?
    intro i
    simp only [List.getElem?_map, List.getElem?_set]
    split
    · rename_i c; subst c
      split
      · rw [h]; rfl
      · rename_i hc; rw [List.getElem?_eq_none (by omega)]
    · rfl
theorem BoardAt.put1 {w : World} {g p q : Nat} {l : List (Int × Int)} (h : BoardAt w g p q l) {n : Nat} {e o : Int} (hn : l[n]? = some (e, o)) (e' : Int) :
    BoardAt ((w.setCell ⟨p, n, none⟩ (.int .i64 e')).drew) g p q (l.set n (e', o)) ∧ Tide.Chg (· = p) w ((w.setCell ⟨p, n, none⟩ (.int .i64 e')).drew) := by
  obtain ⟨m1, m2⟩ := map_set1 l n e o e' hn
  refine ⟨⟨?_, ?_, ?_, by simpa using h.small, h.other⟩, ((Tide.Chg.refl (· = p) w).put (p := ⟨p, n, none⟩) (.inl rfl) _).drew⟩
  · have := (h.head.other (p := ⟨p, n, none⟩) h.apart.1 (.int .i64 e')).drew
    rw [List.length_set]; exact this
  · have := (h.ends.put n (.int .i64 e')).drew
    rw [← m1]
    simpa using this
  · have := (h.offs.other (p := ⟨p, n, none⟩) (Ne.symm h.other) (.int .i64 e')).drew
    rw [← m2]; exact this
theorem BoardAt.put2 {w : World} {g p q : Nat} {l : List (Int × Int)} (h : BoardAt w g p q l) {n : Nat} {e o : Int} (hn : l[n]? = some (e, o)) (o' : Int) :
    BoardAt (w.setCell ⟨q, n, none⟩ (.int .i64 o')) g p q (l.set n (e, o')) ∧ Tide.Chg (· = q) w (w.setCell ⟨q, n, none⟩ (.int .i64 o')) := by
  obtain ⟨m1, m2⟩ := map_set2 l n e o o' hn
  refine ⟨⟨?_, ?_, ?_, by simpa using h.small, h.other⟩, (Tide.Chg.refl (· = q) w).put (p := ⟨q, n, none⟩) (.inl rfl) _⟩
  · have := h.head.other (p := ⟨q, n, none⟩) h.apart.2 (.int .i64 o')
    rw [List.length_set]; exact this
  · have := h.ends.other (p := ⟨q, n, none⟩) h.other (.int .i64 o')
    rw [← m2]; exact this
  · have := h.offs.put n (.int .i64 o')
    rw [← m1]
    simpa using this
theorem BoardAt.chg {S : Nat → Prop} {w w' : World} {g p q : Nat} {l : List (Int × Int)} (h : BoardAt w g p q l) (hc : Tide.Chg S w w') (hg : ¬ S g) (hp : ¬ S p) (hq : ¬ S q) : BoardAt w' g p q l :=
  ⟨h.head.chg hc hg, h.ends.chg hc hp, h.offs.chg hc hq, h.small, h.other⟩
theorem BoardAt.cells {w : World} {g p q : Nat} {l : List (Int × Int)} (h : BoardAt w g p q l) {n : Nat} {e o : Int} (hn : l[n]? = some (e, o)) :
    w.cell? ⟨p, n, none⟩ = some (.int .i64 e) ∧ w.cell? ⟨q, n, none⟩ = some (.int .i64 o) ∧ w.frozen? ⟨p, n, none⟩ = false ∧ w.frozen? ⟨q, n, none⟩ = false ∧ n < l.length ∧
    w.cell? ⟨g, 0, none⟩ = some (.slice (some ⟨p, 0, none⟩) l.length l.length) ∧ w.cell? ⟨g, 1, none⟩ = some (.slice (some ⟨q, 0, none⟩) l.length l.length) := by
  refine ⟨h.ends.here (by simp [hn]), h.offs.here (by simp [hn]), h.ends.soft _, h.offs.soft _, ?_, h.head.here rfl, h.head.here rfl⟩
  rcases Nat.lt_or_ge n l.length with hl | hl
  · exact hl
  · rw [List.getElem?_eq_none hl] at hn; cases hn

set_option maxRecDepth 100000 in
set_option maxHeartbeats 800000 in
theorem boaMake_none (g p q : Nat) (l : List (Int × Int)) (n k : Int) (w : World) (ht : BoardAt w g p q l) (h : n < 0 ∨ (l.length : Int) ≤ n) :
    Calls Try.prog 15 #[.pointer (some ⟨g, 0, none⟩), .int .i64 n, .int .i64 k] w fun e w' => e = .returned (.int .i64 4) ∧ w = w' := by
  have hc : w.cell? ⟨g, 0, none⟩ = some (.slice (some ⟨p, 0, none⟩) l.length l.length) := ht.head.here rfl
  have hs := ht.small
  go_enter Try.func15, Try.ntmps15
  go_wp2_with fail
  refine (refIn_no _ _ _ _ (by omega)).mono ?_
  rintro e w' ⟨rfl, rfl⟩
  go_wp2_with fail
  go_ret
  exact ⟨rfl, rfl⟩
set_option maxRecDepth 100000 in
set_option maxHeartbeats 800000 in
theorem boaMake_arg (g p q : Nat) (l : List (Int × Int)) (n k : Int) (w : World) (ht : BoardAt w g p q l) (n0 : 0 ≤ n) (n1 : n < (l.length : Int)) (h : k < 1 ∨ 100000 < k) :
    Calls Try.prog 15 #[.pointer (some ⟨g, 0, none⟩), .int .i64 n, .int .i64 k] w fun e w' => e = .returned (.int .i64 1) ∧ w = w' := by
  have hc : w.cell? ⟨g, 0, none⟩ = some (.slice (some ⟨p, 0, none⟩) l.length l.length) := ht.head.here rfl
  have hs := ht.small
  go_enter Try.func15, Try.ntmps15
  go_wp2_with fail
  refine (refIn_yes _ _ _ _ n0 (by omega)).mono ?_
  rintro e w' ⟨rfl, rfl⟩
  go_wp2_with fail
  refine (refIn_no _ _ _ _ h).mono ?_
  rintro e w' ⟨rfl, rfl⟩
  go_wp2_with fail
  go_ret
  exact ⟨rfl, rfl⟩
set_option maxRecDepth 100000 in
set_option maxHeartbeats 800000 in
theorem boaMake_yes (g p q : Nat) (l : List (Int × Int)) (n : Nat) (k e o : Int) (w : World) (ht : BoardAt w g p q l) (hn : l[n]? = some (e, o)) (k0 : 1 ≤ k) (k1 : k ≤ 100000) (e0 : 0 ≤ e) (e1 : e ≤ 1000000000000000) :
    Calls Try.prog 15 #[.pointer (some ⟨g, 0, none⟩), .int .i64 n, .int .i64 k] w fun en w' => en = .returned (.int .i64 0) ∧ BoardAt w' g p q (l.set n (Tide.clip (e + k), o)) ∧ Tide.Chg (· = p) w w' := by
  obtain ⟨c1, c2, f1, f2, hlt, h0, h1⟩ := ht.cells hn
  have hs := ht.small
  have HT := Lib.hid ht; have HN := Lib.hid hn
  clear ht hn
  go_enter Try.func15, Try.ntmps15
  go_wp2_with fail
  refine (refIn_yes _ _ _ _ (by omega) (by omega)).mono ?_
  rintro e w' ⟨rfl, rfl⟩
  go_wp2_with fail
  refine (refIn_yes _ _ _ _ k0 k1).mono ?_
  rintro e w' ⟨rfl, rfl⟩
  go_wp2_with fail
  go_region_with (go_at_call 41; refine (refClip _ _).mono ?_; rintro e w' ⟨rfl, rfl⟩)
  all_goals
    go_wp2
    go_ret
    exact ⟨rfl, by rw [IntWalk.i64_in (e + k) (by omega)]; exact HT.out.put1 HN.out _⟩

set_option maxRecDepth 100000 in
set_option maxHeartbeats 800000 in
theorem boaTake_none (g p q : Nat) (l : List (Int × Int)) (n k : Int) (w : World) (ht : BoardAt w g p q l) (h : n < 0 ∨ (l.length : Int) ≤ n) :
    Calls Try.prog 17 #[.pointer (some ⟨g, 0, none⟩), .int .i64 n, .int .i64 k] w fun e w' => e = .returned (.int .i64 4) ∧ w = w' := by
  have hc : w.cell? ⟨g, 0, none⟩ = some (.slice (some ⟨p, 0, none⟩) l.length l.length) := ht.head.here rfl
  have hs := ht.small
  go_enter Try.func17, Try.ntmps17
  go_wp2_with fail
  refine (refIn_no _ _ _ _ (by omega)).mono ?_
  rintro e w' ⟨rfl, rfl⟩
  go_wp2_with fail
  go_ret
  exact ⟨rfl, rfl⟩
set_option maxRecDepth 100000 in
set_option maxHeartbeats 800000 in
theorem boaTake_yes (g p q : Nat) (l : List (Int × Int)) (n : Nat) (k e o : Int) (w : World) (ht : BoardAt w g p q l) (hn : l[n]? = some (e, o)) (k0 : o ≤ k) (k1 : k ≤ e) :
    Calls Try.prog 17 #[.pointer (some ⟨g, 0, none⟩), .int .i64 n, .int .i64 k] w fun en w' => en = .returned (.int .i64 0) ∧ BoardAt w' g p q (l.set n (e, k)) ∧ Tide.Chg (· = q) w w' := by
  obtain ⟨c1, c2, f1, f2, hlt, h0, h1⟩ := ht.cells hn
  have hs := ht.small
  have HT := Lib.hid ht; have HN := Lib.hid hn
  clear ht hn
  go_enter Try.func17, Try.ntmps17
  go_wp2_with fail
  refine (refIn_yes _ _ _ _ (by omega) (by omega)).mono ?_
  rintro e w' ⟨rfl, rfl⟩
  go_wp2_with fail
  go_quiet ((go_at_call 13; exact Calls.quiet_of_same (refIn_true _ _ _ _ k0 k1)))
  go_wp2_with fail
  go_ret
  exact ⟨rfl, by
    obtain ⟨a, b⟩ := HT.out.put2 HN.out k
    exact ⟨a.chg ((Tide.Chg.refl (fun _ => False) _).drewN _) (fun h => h) (fun h => h) (fun h => h), b.drewN _⟩⟩
set_option maxRecDepth 100000 in
set_option maxHeartbeats 800000 in
theorem boaTake_arg (g p q : Nat) (l : List (Int × Int)) (n : Nat) (k e o : Int) (w : World) (ht : BoardAt w g p q l) (hn : l[n]? = some (e, o)) (h : k < o ∨ e < k) :
    Calls Try.prog 17 #[.pointer (some ⟨g, 0, none⟩), .int .i64 n, .int .i64 k] w fun en w' => en = .returned (.int .i64 1) ∧ Tide.Chg (fun _ => False) w w' := by
  obtain ⟨c1, c2, f1, f2, hlt, h0, h1⟩ := ht.cells hn
  have hs := ht.small
  clear ht hn
  go_enter Try.func17, Try.ntmps17
  go_wp2_with fail
  refine (refIn_yes _ _ _ _ (by omega) (by omega)).mono ?_
  rintro e w' ⟨rfl, rfl⟩
  go_wp2_with fail
  go_quiet ((go_at_call 13; exact Calls.quiet_of_same (refIn_false _ _ _ _ h)))
  go_wp2_with fail
  go_ret
  exact ⟨rfl, (Tide.Chg.refl (fun _ => False) _).drewN _⟩
end Go.Proofs.Ytgkbdoecpbepbaa
