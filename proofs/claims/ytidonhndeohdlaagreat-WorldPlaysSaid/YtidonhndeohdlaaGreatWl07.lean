/- Parts of this claim: TopB, TopE, TopL, FleK, FleL, FleO. -/
import Derived.Test.YtidonhndeohdlaaGreatWl06
set_option linter.unusedVariables false
set_option linter.unusedSimpArgs false
set_option maxRecDepth 100000
set_option maxHeartbeats 12800000
namespace Go.Proofs.YtidonhndeohdlaaGreat
open Go.RowKit
theorem refIn_true (n lo hi : Int) (w : World) (h0 : lo ≤ n) (h1 : n ≤ hi) : Calls Tryz.prog 6 #[.int .i64 n, .int .i64 lo, .int .i64 hi] w fun e w' => e = .returned (.bool true) ∧ w' = w :=
 (refIn_yes n lo hi w h0 h1).mono fun _ _ ⟨a, b⟩ => ⟨a, b.symm⟩
theorem refIn_false (n lo hi : Int) (w : World) (h : n < lo ∨ hi < n) : Calls Tryz.prog 6 #[.int .i64 n, .int .i64 lo, .int .i64 hi] w fun e w' => e = .returned (.bool false) ∧ w' = w :=
 (refIn_no n lo hi w h).mono fun _ _ ⟨a, b⟩ => ⟨a, b.symm⟩
structure BoardAt (w : World) (g p q : Nat) (l : List (Int × Int)) : Prop where
 head : G.At w g 70 #[.slice (some ⟨p, 0, none⟩) l.length l.length, .slice (some ⟨q, 0, none⟩) l.length l.length]
 ends : G.At w p 3 (l.map fun x => Value.int .i64 x.1).toArray
 offs : G.At w q 3 (l.map fun x => Value.int .i64 x.2).toArray
 small : l.length ≤ 20
 other : p ≠ q
theorem BoardAt.apart {w : World} {g p q : Nat} {l : List (Int × Int)} (h : BoardAt w g p q l) : g ≠ p ∧ g ≠ q := ⟨h.head.apart h.ends (by decide), h.head.apart h.offs (by decide)⟩
theorem map_set1 (l : List (Int × Int)) (k : Nat) (e o e' : Int) (h : l[k]? = some (e, o)) :
  (l.map fun x => Value.int .i64 x.1).set k (.int .i64 e') = (l.set k (e', o)).map (fun x => Value.int .i64 x.1) ∧ (l.map fun x => Value.int .i64 x.2) = (l.set k (e', o)).map (fun x => Value.int .i64 x.2) := by
 constructor
 ·rw [List.map_set]
 apply List.ext_getElem?
 intro i
 simp only [List.getElem?_map, List.getElem?_set]
 split
 ·rename_i c; subst c
  split
  ·rw [h]; rfl
  rename_i hc; rw [List.getElem?_eq_none (by omega)]
 rfl
theorem map_set2 (l : List (Int × Int)) (k : Nat) (e o o' : Int) (h : l[k]? = some (e, o)) :
  (l.map fun x => Value.int .i64 x.2).set k (.int .i64 o') = (l.set k (e, o')).map (fun x => Value.int .i64 x.2) ∧ (l.map fun x => Value.int .i64 x.1) = (l.set k (e, o')).map (fun x => Value.int .i64 x.1) := by
 constructor
 ·rw [List.map_set]
 apply List.ext_getElem?
 intro i
 simp only [List.getElem?_map, List.getElem?_set]
 split
 ·rename_i c; subst c
  split
  ·rw [h]; rfl
  rename_i hc; rw [List.getElem?_eq_none (by omega)]
 rfl
theorem BoardAt.put1 {w : World} {g p q : Nat} {l : List (Int × Int)} (h : BoardAt w g p q l) {n : Nat} {e o : Int} (hn : l[n]? = some (e, o)) (e' : Int) :
  BoardAt ((w.setCell ⟨p, n, none⟩ (.int .i64 e')).drew) g p q (l.set n (e', o)) ∧ G.Chg (· = p) w ((w.setCell ⟨p, n, none⟩ (.int .i64 e')).drew) := by
 obtain ⟨m1, m2⟩ := map_set1 l n e o e' hn
 refine ⟨⟨?_, ?_, ?_, by simpa using h.small, h.other⟩, ((G.Chg.refl (· = p) w).put (p := ⟨p, n, none⟩) (.inl rfl) _).drew⟩
 ·have := (h.head.other (p := ⟨p, n, none⟩) h.apart.1 (.int .i64 e')).drew
  rw [List.length_set]; exact this
 ·have := (h.ends.put n (.int .i64 e')).drew
  rw [← m1]
  simpa using this
 have := (h.offs.other (p := ⟨p, n, none⟩) (Ne.symm h.other) (.int .i64 e')).drew
 rw [← m2]; exact this
theorem BoardAt.put2 {w : World} {g p q : Nat} {l : List (Int × Int)} (h : BoardAt w g p q l) {n : Nat} {e o : Int} (hn : l[n]? = some (e, o)) (o' : Int) :
  BoardAt (w.setCell ⟨q, n, none⟩ (.int .i64 o')) g p q (l.set n (e, o')) ∧ G.Chg (· = q) w (w.setCell ⟨q, n, none⟩ (.int .i64 o')) := by
 obtain ⟨m1, m2⟩ := map_set2 l n e o o' hn
 refine ⟨⟨?_, ?_, ?_, by simpa using h.small, h.other⟩, (G.Chg.refl (· = q) w).put (p := ⟨q, n, none⟩) (.inl rfl) _⟩
 ·have := h.head.other (p := ⟨q, n, none⟩) h.apart.2 (.int .i64 o')
  rw [List.length_set]; exact this
 ·have := h.ends.other (p := ⟨q, n, none⟩) h.other (.int .i64 o')
  rw [← m2]; exact this
 have := h.offs.put n (.int .i64 o')
 rw [← m1]
 simpa using this
theorem BoardAt.chg {S : Nat → Prop} {w w' : World} {g p q : Nat} {l : List (Int × Int)} (h : BoardAt w g p q l) (hc : G.Chg S w w') (hg : ¬ S g) (hp : ¬ S p) (hq : ¬ S q) : BoardAt w' g p q l :=
 ⟨h.head.chg hc hg, h.ends.chg hc hp, h.offs.chg hc hq, h.small, h.other⟩
theorem BoardAt.cells {w : World} {g p q : Nat} {l : List (Int × Int)} (h : BoardAt w g p q l) {n : Nat} {e o : Int} (hn : l[n]? = some (e, o)) :
  w.cell? ⟨p, n, none⟩ = some (.int .i64 e) ∧ w.cell? ⟨q, n, none⟩ = some (.int .i64 o) ∧ w.frozen? ⟨p, n, none⟩ = false ∧ w.frozen? ⟨q, n, none⟩ = false ∧ n < l.length ∧
  w.cell? ⟨g, 0, none⟩ = some (.slice (some ⟨p, 0, none⟩) l.length l.length) ∧ w.cell? ⟨g, 1, none⟩ = some (.slice (some ⟨q, 0, none⟩) l.length l.length) := by
 refine ⟨h.ends.here (by simp [hn]), h.offs.here (by simp [hn]), h.ends.soft _, h.offs.soft _, ?_, h.head.here rfl, h.head.here rfl⟩
 rcases Nat.lt_or_ge n l.length with hl | hl
 ·exact hl
 rw [List.getElem?_eq_none hl] at hn; cases hn
theorem boaMake_none (g p q : Nat) (l : List (Int × Int)) (n k : Int) (w : World) (ht : BoardAt w g p q l) (h : n < 0 ∨ (l.length : Int) ≤ n) :
  Calls Tryz.prog 33 #[.pointer (some ⟨g, 0, none⟩), .int .i64 n, .int .i64 k] w fun e w' => e = .returned (.int .i64 4) ∧ w = w' := by
 have hc := ht.head.here (i := 0) rfl
 have hs := ht.small
 go_enter Tryz.func33, Tryz.ntmps33
 go_wp2_with fail
 refine (refIn_no _ _ _ _ (by omega)).mono ?_
 rintro e w' ⟨rfl, rfl⟩
 go_wp2_with fail
 go_ret
 exact ⟨rfl, rfl⟩
theorem boaMake_arg (g p q : Nat) (l : List (Int × Int)) (n k : Int) (w : World) (ht : BoardAt w g p q l) (n0 : 0 ≤ n) (n1 : n < (l.length : Int)) (h : k < 1 ∨ 100000 < k) :
  Calls Tryz.prog 33 #[.pointer (some ⟨g, 0, none⟩), .int .i64 n, .int .i64 k] w fun e w' => e = .returned (.int .i64 1) ∧ w = w' := by
 have hc := ht.head.here (i := 0) rfl
 have hs := ht.small
 go_enter Tryz.func33, Tryz.ntmps33
 go_wp2_with fail
 refine (refIn_yes _ _ _ _ n0 (by omega)).mono ?_
 rintro e w' ⟨rfl, rfl⟩
 go_wp2_with fail
 refine (refIn_no _ _ _ _ h).mono ?_
 rintro e w' ⟨rfl, rfl⟩
 go_wp2_with fail
 go_ret
 exact ⟨rfl, rfl⟩
theorem boaMake_yes (g p q : Nat) (l : List (Int × Int)) (n : Nat) (k e o : Int) (w : World) (ht : BoardAt w g p q l) (hn : l[n]? = some (e, o)) (k0 : 1 ≤ k) (k1 : k ≤ 100000) (e0 : 0 ≤ e) (e1 : e ≤ 1000000000000000) :
  Calls Tryz.prog 33 #[.pointer (some ⟨g, 0, none⟩), .int .i64 n, .int .i64 k] w fun en w' => en = .returned (.int .i64 0) ∧ BoardAt w' g p q (l.set n (G.clip (e + k), o)) ∧ G.Chg (· = p) w w' := by
 obtain ⟨c1, c2, f1, f2, hlt, h0, h1⟩ := ht.cells hn
 have hs := ht.small
 have HT := J ht; have HN := J hn
 clear ht hn
 go_enter Tryz.func33, Tryz.ntmps33
 go_wp2_with fail
 refine (refIn_yes _ _ _ _ (by omega) (by omega)).mono ?_
 rintro e w' ⟨rfl, rfl⟩
 go_wp2_with fail
 refine (refIn_yes _ _ _ _ k0 k1).mono ?_
 rintro e w' ⟨rfl, rfl⟩
 go_wp2_with fail
 go_region_with (go_at_call 85; refine (refClip _ _).mono ?_; rintro e w' ⟨rfl, rfl⟩)
 all_goals
  go_wp2
  go_ret
  exact ⟨rfl, by rw [IntWalk.i64_in (e + k) (by omega)]; exact HT.u.put1 HN.u _⟩
theorem boaTake_none (g p q : Nat) (l : List (Int × Int)) (n k : Int) (w : World) (ht : BoardAt w g p q l) (h : n < 0 ∨ (l.length : Int) ≤ n) :
  Calls Tryz.prog 34 #[.pointer (some ⟨g, 0, none⟩), .int .i64 n, .int .i64 k] w fun e w' => e = .returned (.int .i64 4) ∧ w = w' := by
 have hc := ht.head.here (i := 0) rfl
 have hs := ht.small
 go_enter Tryz.func34, Tryz.ntmps34
 go_wp2_with fail
 refine (refIn_no _ _ _ _ (by omega)).mono ?_
 rintro e w' ⟨rfl, rfl⟩
 go_wp2_with fail
 go_ret
 exact ⟨rfl, rfl⟩
theorem boaTake_yes (g p q : Nat) (l : List (Int × Int)) (n : Nat) (k e o : Int) (w : World) (ht : BoardAt w g p q l) (hn : l[n]? = some (e, o)) (k0 : o ≤ k) (k1 : k ≤ e) :
  Calls Tryz.prog 34 #[.pointer (some ⟨g, 0, none⟩), .int .i64 n, .int .i64 k] w fun en w' => en = .returned (.int .i64 0) ∧ BoardAt w' g p q (l.set n (e, k)) ∧ G.Chg (· = q) w w' := by
 obtain ⟨c1, c2, f1, f2, hlt, h0, h1⟩ := ht.cells hn
 have hs := ht.small
 have HT := J ht; have HN := J hn
 clear ht hn
 go_enter Tryz.func34, Tryz.ntmps34
 go_wp2_with fail
 refine (refIn_yes _ _ _ _ (by omega) (by omega)).mono ?_
 rintro e w' ⟨rfl, rfl⟩
 go_wp2_with fail
 go_quiet ((go_at_call 6; exact Calls.quiet_of_same (refIn_true _ _ _ _ k0 k1)))
 go_wp2_with fail
 go_ret
 exact ⟨rfl, by
  obtain ⟨a, b⟩ := HT.u.put2 HN.u k
  exact ⟨a.chg ((G.Chg.refl (fun _ => False) _).drewN _) (fun h => h) (fun h => h) (fun h => h), b.drewN _⟩⟩
theorem boaTake_arg (g p q : Nat) (l : List (Int × Int)) (n : Nat) (k e o : Int) (w : World) (ht : BoardAt w g p q l) (hn : l[n]? = some (e, o)) (h : k < o ∨ e < k) :
  Calls Tryz.prog 34 #[.pointer (some ⟨g, 0, none⟩), .int .i64 n, .int .i64 k] w fun en w' => en = .returned (.int .i64 1) ∧ G.Chg (fun _ => False) w w' := by
 obtain ⟨c1, c2, f1, f2, hlt, h0, h1⟩ := ht.cells hn
 have hs := ht.small
 clear ht hn
 go_enter Tryz.func34, Tryz.ntmps34
 go_wp2_with fail
 refine (refIn_yes _ _ _ _ (by omega) (by omega)).mono ?_
 rintro e w' ⟨rfl, rfl⟩
 go_wp2_with fail
 go_quiet ((go_at_call 6; exact Calls.quiet_of_same (refIn_false _ _ _ _ h)))
 go_wp2_with fail
 go_ret
 exact ⟨rfl, (G.Chg.refl (fun _ => False) _).drewN _⟩
open Go.RowKit
theorem below_app1 {w wr w1 : World} {o : Obj} {v : Value} {xs : List Int} (hb : Below w.heap.size w wr) (ho : OwnInts w.heap.size wr v xs) (hg : (wr.alloc o).grownBy w1 v.ownBlock) : Below w.heap.size w w1 :=
 ((hb.alloc hb.size _)).grown hg (by have := hb.size; simp; omega) (G.own_ge ho)
theorem own_drew {w : World} {B : Nat} {e : TypeId} {s : Nat} {v : Value} {n : Nat} {xs : List Value} (h : w.ownsRow B e s v n xs) : w.drew.ownsRow B e s v n xs := h
theorem new_drew {w : World} {a : Addr} {l : List Value} (h : ∀ (j : Nat) (u : Value), l[j]? = some u → w.cell? (a.add j) = some u) : ∀ (j : Nat) (u : Value), l[j]? = some u → w.drew.cell? (a.add j) = some u := h
theorem drew_grown {w w1 : World} {o : Obj} {r : Option Nat} (h : (w.alloc o).drew.grownBy w1 r) : (w.alloc o).grownBy w1 r := ⟨h.os, h.tape, h.output, h.size, h.block⟩
theorem one_cell {x : Int} : ∀ u ∈ [Value.int .i64 x], u.oneCell' = true := by simp [Value.oneCell']
theorem boaLags (g p q : Nat) (l : List (Int × Int)) (w : World) (ht : BoardAt w g p q l) (hsm : Small l) :
  Calls Tryz.prog 54 #[.pointer (some ⟨g, 0, none⟩)] w (LagsPost w (lagsOf l)) := by
 have hc := ht.head.here (i := 0) rfl
 have hs := ht.small
 have hgl := ht.head.inside; have hpl := ht.ends.inside; have hql := ht.offs.inside
 have HT := J ht; have HS := J hsm
 obtain ⟨i0, hi, hz0, hz1, hz2⟩ := info_parts info_int
 clear ht hsm
 go_enter Tryz.func54, Tryz.ntmps54
 go_wp2_with fail
 go_loopw [3, 4] (fun v i wr => ∃ k : Nat, k ≤ l.length ∧ i = .int .i64 k ∧ Hid (OwnInts w.heap.size wr v (lagsOf (l.take k))) ∧ Below w.heap.size w wr) (fun _ i _ => l.length - (intOf i).toNat)
 case atStart => exact ⟨0, by omega, rfl, ⟨by simp [lagsOf], .inl ⟨rfl, by simp [lagsOf]⟩⟩, Below.refl _ _⟩
 obtain ⟨k, hk, rfl, hown, hbw⟩ := hrel
 have hc1 : wr.cell? ⟨g, 0, none⟩ = some (.slice (some ⟨p, 0, none⟩) l.length l.length) := (hbw.cell (p := ⟨g, 0, none⟩) hgl).trans (HT.u.head.here rfl)
 have hc2 : wr.cell? ⟨g, 1, none⟩ = some (.slice (some ⟨q, 0, none⟩) l.length l.length) := (hbw.cell (p := ⟨g, 1, none⟩) hgl).trans (HT.u.head.here rfl)
 by_cases hlt : k < l.length
 ·obtain ⟨⟨e, o⟩, hn⟩ : ∃ q, l[k]? = some q := ⟨_, List.getElem?_eq_getElem hlt⟩
  have hmem : (e, o) ∈ l := List.mem_of_getElem? hn
  obtain ⟨o0, o1, e1⟩ := HS.u _ hmem
  simp only at o0 o1 e1
  have hp : wr.cell? ⟨p, k, none⟩ = some (.int .i64 e) := (hbw.cell (p := ⟨p, k, none⟩) hpl).trans (HT.u.cells hn).1
  have hp' : wr.cell? ⟨q, k, none⟩ = some (.int .i64 o) := (hbw.cell (p := ⟨q, k, none⟩) hql).trans (HT.u.cells hn).2.1
  have HN := J hn
  clear hn hmem
  have hlen : Hid ((lagsOf (l.take k)).length = k) := by show _ = _; unfold lagsOf; simp; omega
  have hew : IntKind.i64.wrap (e - o) = e - o := IntWalk.i64_in _ (by omega)
  go_wp2_with fail
  have hm3 : Hid ((lagsOf (l.take k)).length + 1 ≤ maxLen) := by show _ ≤ _; rw [hlen.u]; simp only [maxLen]; omega
  have hm4 : Hid (((lagsOf (l.take k)).length + 1) * 8 ≤ 140737488355328) := by show _ ≤ _; rw [hlen.u]; omega
  have hm5 : Hid (∀ o : Obj, w.heap.size ≤ (wr.alloc o).drew.heap.size) := fun o => by have := hbw.size; simp; omega
  go_region_law (refine step_append_lies _ rfl (.tmp 14) (.tmp 30) 68 rfl w.heap.size 3 i0 (.int .i64 0) 1 8 Tryz.underlying68 hi hz0 hz1 hz2 rfl (by decide) _ _ _ rfl (own_drew (hown.u.alloc _)) ⟨wr.heap.size, 0, none⟩ 1 1 [.int .i64 (e - o)] rfl rfl (new_drew (G.new_one rfl)) one_cell (by decide) hm3.u hm4.u (hm5.u _) _ rfl ?_; intro g1 cap1 w1 hown1 hg1 hl1 hl2)
  all_goals
   have hb1 := below_app1 hbw hown.u (drew_grown hg1)
   have ho1 := own_lags HN.u hown1
   clear hown1 hg1 hl1 hl2 hown hbw hlen hp hp' HN hew hm3 hm4 hm5 hc1 hc2
   go_wp2_with fail
   go_roundw
   case rel => exact ⟨k + 1, by omega, by go_num, ho1, hb1⟩
   case measure => simp [intOf]; omega
 go_wp2_with fail
 go_ret
 exact ⟨_, rfl, by have := hown.u; rw [List.take_of_length_le (by omega)] at this; exact this, hbw⟩
open Go.RowKit
theorem boaMake_any (g p q : Nat) (l : List (Int × Int)) (i n : Int) (w : World) (ht : BoardAt w g p q l) (hs : Small l) :
  Calls Tryz.prog 33 #[.pointer (some ⟨g, 0, none⟩), .int .i64 i, .int .i64 n] w fun en w' => en = .returned (.int .i64 (makeErr l i n)) ∧ BoardAt w' g p q (makeLst l i n) ∧ G.Chg (fun x => x = p ∨ x = q) w w' := by
 cases he : entry l i with
 | none =>
  have e1 : makeErr l i n = 4 := by unfold makeErr; rw [he]; rfl
  have e2 : makeLst l i n = l := by unfold makeLst; rw [he]; split <;> rfl
  rw [e1, e2]
  exact (boaMake_none g p q l i n w ht (entry_none he)).mono fun _ _ ⟨a, b⟩ => ⟨a, b ▸ ht, b ▸ G.Chg.refl _ _⟩
 | some x =>
  obtain ⟨e, o⟩ := x
  obtain ⟨h0, hx⟩ := entry_some he
  have hlt : i.toNat < l.length := by
   rcases Nat.lt_or_ge i.toNat l.length with h | h
   ·exact h
   rw [List.getElem?_eq_none h] at hx; cases hx
  by_cases hn : n < 1 ∨ 100000 < n
  ·have e1 : makeErr l i n = 1 := by unfold makeErr; rw [he]; simp [hn]
   have e2 : makeLst l i n = l := by unfold makeLst; rw [if_pos hn]
   rw [e1, e2]
   exact (boaMake_arg g p q l i n w ht h0 (by omega) hn).mono fun _ _ ⟨a, b⟩ => ⟨a, b ▸ ht, b ▸ G.Chg.refl _ _⟩
  have e1 : makeErr l i n = 0 := by unfold makeErr; rw [he]; simp [hn]
  have hm := hs _ (List.mem_of_getElem? hx)
  simp only at hm
  have e2 : makeLst l i n = l.set i.toNat (G.clip (e + n), o) := by unfold makeLst; rw [if_neg hn, he]
  rw [e1, e2]
  have := boaMake_yes g p q l i.toNat n e o w ht hx (by omega) (by omega) (by omega) (by omega)
  rw [Int.toNat_of_nonneg h0] at this
  exact this.mono fun _ _ ⟨a, b, c⟩ => ⟨a, b, c.mono fun _ _ h => .inl h⟩
theorem boaTake_any (g p q : Nat) (l : List (Int × Int)) (i n : Int) (w : World) (ht : BoardAt w g p q l) :
  Calls Tryz.prog 34 #[.pointer (some ⟨g, 0, none⟩), .int .i64 i, .int .i64 n] w fun en w' => en = .returned (.int .i64 (takeErr l i n)) ∧ BoardAt w' g p q (takeLst l i n) ∧ G.Chg (fun x => x = p ∨ x = q) w w' := by
 cases he : entry l i with
 | none =>
  have e1 : takeErr l i n = 4 := by unfold takeErr; rw [he]
  have e2 : takeLst l i n = l := by unfold takeLst; rw [he]
  rw [e1, e2]
  exact (boaTake_none g p q l i n w ht (entry_none he)).mono fun _ _ ⟨a, b⟩ => ⟨a, b ▸ ht, b ▸ G.Chg.refl _ _⟩
 | some x =>
  obtain ⟨e, o⟩ := x
  obtain ⟨h0, hx⟩ := entry_some he
  by_cases hn : n < o ∨ e < n
  ·have e1 : takeErr l i n = 1 := by unfold takeErr; rw [he]; simp [hn]
   have e2 : takeLst l i n = l := by unfold takeLst; rw [he]; simp [hn]
   rw [e1, e2]
   have := boaTake_arg g p q l i.toNat n e o w ht hx hn
   rw [Int.toNat_of_nonneg h0] at this
   exact this.mono fun _ _ ⟨a, b⟩ => ⟨a, ht.chg b (fun h => h) (fun h => h) (fun h => h), b.mono fun _ _ h => h.elim⟩
  have e1 : takeErr l i n = 0 := by unfold takeErr; rw [he]; simp [hn]
  have e2 : takeLst l i n = l.set i.toNat (e, n) := by unfold takeLst; rw [he]; simp [hn]
  rw [e1, e2]
  have := boaTake_yes g p q l i.toNat n e o w ht hx (by omega) (by omega)
  rw [Int.toNat_of_nonneg h0] at this
  exact this.mono fun _ _ ⟨a, b, c⟩ => ⟨a, b, c.mono fun _ _ h => .inr h⟩
end Go.Proofs.YtidonhndeohdlaaGreat
namespace G
def otherId (id : Int) (p : Pod) : Bool := !(p.id == id)
theorem filter_erase {l : List Pod} (hu : l.Pairwise (fun a b => a.id < b.id)) {i : Nat} {p : Pod} (hp : l[i]? = some p) : l.filter (otherId p.id) = l.eraseIdx i := by
 have h1 : ∀ q ∈ l.take i, otherId p.id q = true := fun q hq => by
  obtain ⟨j, hj⟩ := List.mem_iff_getElem?.1 hq
  rw [List.getElem?_take] at hj
  split at hj
  ·rename_i hlt
   have := up_get hu hlt hp hj
   unfold otherId; simp; omega
  cases hj
 have h2 : ∀ q ∈ l.drop (i + 1), otherId p.id q = true := fun q hq => by
  obtain ⟨j, hj⟩ := List.mem_iff_getElem?.1 hq
  rw [List.getElem?_drop] at hj
  have := up_get hu (show i < i + 1 + j by omega) hj hp
  unfold otherId; simp; omega
 rw [erase_at]
 conv => lhs; rw [split_at hp]
 rw [List.filter_append, List.filter_cons, List.filter_eq_self.2 h1, List.filter_eq_self.2 h2]
 have : otherId p.id p = false := by unfold otherId; simp
 rw [this]; simp
theorem refPick_fewer {l : List Pod} {last most : Int} (h : Crewed l last most) (hl : 0 < liveN l) : ∃ i p, refPick l l.length = some i ∧ l[i]? = some p ∧ fewerL l = (if p.state = 3 ∧ 0 < p.load then l.set i { p with state := 4 } else l.eraseIdx i) := by
 rw [ref_is_prog h.states]
 unfold progPick fewerL
 rw [best_gt h.up, best_gt h.up, best_both h.up]
 cases h1 : pick (fun p => p.state == 1) anyOf l l.length with
 | some i =>
  obtain ⟨_, p, hp, hs⟩ := pick_lt h1
  have hs' : p.state = 1 := by simpa using hs
  exact ⟨i, p, rfl, hp, by rw [if_neg (by omega)]⟩
 | none =>
  cases h2 : pick (fun p => p.state == 2) anyOf l l.length with
  | some i =>
   obtain ⟨_, p, hp, hs⟩ := pick_lt h2
   have hs' : p.state = 2 := by simpa using hs
   exact ⟨i, p, rfl, hp, by rw [if_neg (by omega)]⟩
  | none =>
   obtain ⟨i, h3⟩ := victim h.states hl (by rw [best_gt h.up]; exact h1) (by rw [best_gt h.up]; exact h2)
   rw [best_both h.up] at h3
   obtain ⟨_, p, hp, hs⟩ := pick_lt h3
   have hs' : p.state = 3 := by simpa using hs
   have hla : loadAt l i = p.load := by unfold loadAt; rw [hp]; rfl
   have h0 := (h.loads p (List.mem_of_getElem? hp)).1
   refine ⟨i, p, h3, hp, ?_⟩
   simp only [h3, hla]
   by_cases c : p.load = 0
   ·rw [if_pos c, if_neg (by omega)]
   rw [if_neg c, if_pos ⟨hs', by omega⟩]; unfold drainAt; rw [hp]
end G
namespace Go.Proofs.YtidonhndeohdlaaGreat
open Go.RowKit
theorem fle_cells_in {w : World} {cs : Array Value} {T : TypeId} {H : Nat} (hH : w.heap.size = H) : ∀ (j : Nat) (u : Value), cs.toList[j]? = some u → (w.alloc (.cells cs T)).cell? ((⟨H, 0, none⟩ : Addr).add j) = some u := by
 subst hH; exact G.new_cells w cs T
theorem creCount (S : Nat → Prop) (g : Nat) (v : Value) (l : List G.Pod) (last most : Int) (w : World) (h : FAt 78 S w g v l last most) :
  Calls Tryz.prog 83 #[.pointer (some ⟨g, 0, none⟩)] w fun e w' => e = .returned (.int .i64 (G.liveN l)) ∧ w = w' := by
 obtain ⟨A, cap, rfl, _, _, _⟩ := h.row.slice
 have hc := h.head.here (i := 0) rfl
 have hs := h.small
 have HH := J h
 clear h
 go_enter Tryz.func83, Tryz.ntmps83
 go_wp2_with fail
 go_loop [3, 4] (fun n i => ∃ k : Nat, k ≤ l.length ∧ i = .int .i64 k ∧ n = .int .i64 (((l.take k).countP G.lives : Nat) : Int)) (fun _ i => l.length - (intOf i).toNat)
 case atStart => exact ⟨0, by omega, rfl, by simp⟩
 obtain ⟨k, hk, rfl, rfl⟩ := hrel
 by_cases hlt : k < l.length
 ·obtain ⟨p, hp⟩ := G.get_some l hlt
  obtain ⟨b, cap', e, hS, _, _, hbl, c0, c1, c2, _⟩ := HH.u.pod hp
  cases e
  have i0 : (0 : Int) ≤ (k : Int) := by omega
  have i1 : (k : Int) < (l.length : Int) := by omega
  have HC := J (G.count_snoc (p := G.lives) hp)
  have hle : (l.take k).countP G.lives ≤ 10000000 := Nat.le_trans List.countP_le_length (by rw [List.length_take]; omega)
  generalize (l.take k).countP G.lives = N at HC hle ⊢
  have hle' : (N : Int) ≤ 10000000 := by omega
  clear hp hle
  cases hf : (p.state == 4)
  ·have hf2 : (p.state != 4) = true := by simp only [bne, hf]; rfl
   have HT := J (show G.lives p = true by unfold G.lives; rw [hf]; rfl)
   go_wp2_with fail
   go_round
   case rel => exact ⟨k + 1, by omega, by go_num, by rw [HC.u, HT.u]; go_num⟩
   case measure => simp [intOf]; omega
  have hf2 : (p.state != 4) = false := by simp only [bne, hf]; rfl
  have HT := J (show G.lives p = false by unfold G.lives; rw [hf]; rfl)
  go_wp2_with fail
  go_round
  case rel => exact ⟨k + 1, by omega, by go_num, by rw [HC.u, HT.u]; go_num⟩
  case measure => simp [intOf]; omega
 have hke : k = l.length := by omega
 subst hke
 rw [List.take_length]
 go_wp2_with fail
 go_ret
 exact ⟨rfl, rfl⟩
structure OutRun (S : Nat → Prop) (w wr : World) (g : Nat) (v : Value) (l : List G.Pod) (last most : Int) (o : Value) (q : List G.Pod) : Prop where
 fle : FAt 78 S wr g v l last most
 u : G.OwnRow (fun b => w.heap.size ≤ b) wr 101 3 o q.length (q.flatMap G.Pod.enc)
 chg : G.Chg (fun _ => False) w wr
 low : ∀ b, S b → b < w.heap.size
theorem OutRun.app {S : Nat → Prop} {w wr w3 : World} {g b2 cap2 : Nat} {v o : Value} {l q : List G.Pod} {last most : Int} {r : G.Pod} {ob : Obj} (h : OutRun S w wr g v l last most o q)
  (h1 : w3.ownsRow 0 101 3 (.slice (some ⟨b2, 0, none⟩) (q.length + 1) cap2) (q.length + 1) (q.flatMap G.Pod.enc ++ r.enc)) (hg : (wr.alloc ob).grownBy w3 o.ownBlock) (ho : o.ownBlock = some b2 ∨ b2 = wr.heap.size + 1) (hlt : b2 < w3.heap.size) :
  OutRun S w w3 g v l last most (.slice (some ⟨b2, 0, none⟩) (q.length + 1) cap2) (q ++ [r]) := by
 have z : (wr.alloc ob).heap.size = wr.heap.size + 1 := by simp
 have z1 := h.chg.size
 obtain ⟨r1, r2⟩ := (h.u.alloc ob).app h1 hg (ho.imp id (fun e => by rw [e, z])) hlt
 refine ⟨(h.fle.alloc ob).chg r2 (fun b hb hn => by have := h.low b hb; omega), ?_, (h.chg.alloc ob).step r2 (fun b hb => .inr hb), h.low⟩
 rw [List.length_append, List.flatMap_append, List.flatMap_singleton]
 refine r1.mono fun c _ hc => ?_
 rcases hc with hc | hc
 ·exact hc
 omega
def OutPost (T : TypeId) (S : Nat → Prop) (w : World) (g : Nat) (l : List G.Pod) (last most : Int) (e : Ending) (w' : World) : Prop :=
 (∃ x, e = .returned x) ∧ (∃ v, FAt T (G.Plus S w w') w' g v l last most) ∧ G.Chg S w w'
theorem creOut (S : Nat → Prop) (g : Nat) (v : Value) (l : List G.Pod) (last most id : Int) (w : World) (h : FAt 78 S w g v l last most) :
  Calls Tryz.prog 88 #[.pointer (some ⟨g, 0, none⟩), .int .i64 id] w (OutPost 78 S w g (l.filter (G.otherId id)) last most) := by
 obtain ⟨A, cap0, rfl, _, _, _⟩ := h.row.slice
 have hs := h.small
 have HH := J h
 have HR0 := J (show OutRun S w w g (.slice A l.length cap0) l last most (.slice none 0 0) [] from ⟨h, G.OwnRow.nil _ _ _ _, G.Chg.refl _ _, h.lim⟩)
 clear h
 obtain ⟨i0, hi, hz0, hz1, hz2⟩ := info_parts fle_info
 go_enter Tryz.func88, Tryz.ntmps88
 go_wp2_with fail
 go_loopw [4, 5] (fun o i wr => ∃ k : Nat, k ≤ l.length ∧ i = .int .i64 k ∧ Hid (OutRun S w wr g (.slice A l.length cap0) l last most o ((l.take k).filter (G.otherId id)))) (fun _ i _ => l.length - (intOf i).toNat)
 case atStart => exact ⟨0, by omega, rfl, HR0⟩
 clear HR0
 obtain ⟨k, hk, rfl, HR⟩ := hrel
 obtain ⟨A7, c7, rfl, _, _, _⟩ := HR.u.u.slice
 have hc := HR.u.fle.head.here (i := 0) rfl
 have f0 := HR.u.fle.head.soft 0
 by_cases hlt : k < l.length
 ·obtain ⟨p, hp⟩ := G.get_some l hlt
  obtain ⟨b, cap', e, hS, _, _, hbl, c0, c1, c2, _⟩ := HR.u.fle.pod hp
  cases e
  have i0' : (0 : Int) ≤ (k : Int) := by omega
  have i1 : (k : Int) < (l.length : Int) := by omega
  have HSn := J (G.filter_snoc (p := G.otherId id) hp)
  have hfl : ((l.take k).filter (G.otherId id)).length ≤ 10000000 := Nat.le_trans (List.length_filter_le _ _) (by rw [List.length_take]; omega)
  generalize (l.take k).filter (G.otherId id) = q at HR HSn hfl ⊢
  clear hp f0
  cases hq : (p.id == id)
  ·have hq2 : (p.id != id) = true := by simp only [bne, hq]; rfl
   have HE := J (show (l.take (k + 1)).filter (G.otherId id) = q ++ [p] by rw [HSn.u]; unfold G.otherId; rw [hq]; rfl)
   have hm3 := J (show q.length + 1 ≤ maxLen by simp only [maxLen]; omega)
   have hm4 := J (show (q.length + 1) * 24 ≤ 140737488355328 by omega)
   clear hq hfl
   go_wp2_with (at_builtin; refine wpList_append_lies _ (by rfl) (.tmp 25) (.tmp 33) 76 (by rfl) 0 101 i0 (.agg #[.int .i64 0, .int .i64 0, .int .i64 0]) 3 24 Tryz.underlying76 hi hz0 hz1 hz2 rfl (by decide) (.slice A7 q.length c7) _ _ rfl (HR.u.u.alloc _).owns ⟨wr.heap.size, 0, none⟩ 1 1 (G.Pod.enc p) rfl rfl (fle_cells_in rfl) (by simp [Value.oneCell', G.Pod.enc]) (by decide) hm3.u hm4.u (Nat.zero_le _) _ rfl ?_)
   intro b2 cap2 w3 hown hg ho hlt2
   have HN := J (HR.u.app hown hg ho hlt2)
   clear hown hg ho hlt2 hc c0 c1 c2
   go_wp2_with fail
   go_roundw
   case rel => exact ⟨k + 1, by omega, by go_num, by rw [HE.u]; exact HN⟩
   case measure => simp [intOf]; omega
  have hq2 : (p.id != id) = false := by simp only [bne, hq]; rfl
  have HE := J (show (l.take (k + 1)).filter (G.otherId id) = q by rw [HSn.u]; unfold G.otherId; rw [hq]; simp)
  clear hq hfl
  go_wp2_with fail
  go_roundw
  case rel => exact ⟨k + 1, by omega, by go_num, by rw [HE.u]; exact HR⟩
  case measure => simp [intOf]; omega
 have hke : k = l.length := by omega
 subst hke
 rw [List.take_length] at HR ⊢
 have hfl : (l.filter (G.otherId id)).length ≤ 10000000 := Nat.le_trans (List.length_filter_le _ _) hs
 have HFin := J (show OutPost 78 S w g (l.filter (G.otherId id)) last most (.returned (.tuple #[])) (wr.setCell ⟨g, 0, none⟩ (.slice A7 (l.filter (G.otherId id)).length c7)) from by
  have hgl := HR.u.low g HR.u.fle.own
  refine ⟨⟨_, rfl⟩, ⟨_, HR.u.fle.head.put 0 _, ?_, .inl HR.u.fle.own, hfl, fun c hc' => ?_⟩, (HR.u.chg.mono (fun _ _ h => h.elim)).put (.inl HR.u.fle.own) _⟩
  ·exact (HR.u.u.mono fun c hc' hb => .inr ⟨hb, by rw [G.size_put]; exact hc'⟩ : G.OwnRow (G.Plus S w (wr.setCell ⟨g, 0, none⟩ (.slice A7 (l.filter (G.otherId id)).length c7))) wr _ _ _ _ _).aside (p := ⟨g, 0, none⟩) (HR.u.u.apartAt HR.u.fle.head (by decide)) _
  rcases hc' with hc' | hc'
  ·have := HR.u.fle.lim c hc'; rw [G.size_put]; exact this
  exact hc'.2)
 clear hfl
 go_wp2_with fail
 go_end0
 exact HFin.u
open Go.RowKit
/- slices.IndexFunc at []api.Pod, the function (*tideref.Crew).find$1 -/
theorem creF_index (B : Nat) (p : G.Pod → Bool) (l : List G.Pod) (v : Value) (w : World) (hv : G.ListIn w 3 G.Pod.enc v l) (hlen : l.length ≤ 100000000)
  (hp : ∀ (m : G.Pod) (W : World), Below w.heap.size w W → Calls Tryz.prog 123 #[.agg #[.int .i64 m.id, .int .i64 m.state, .int .i64 m.load], .pointer (some ⟨B, 0, none⟩)] W fun e W' => e = .returned (.bool (p m)) ∧ Below W.heap.size W W') :
  Calls Tryz.prog 122 #[v, .func (.func 123) #[] #[.pointer (some ⟨B, 0, none⟩)]] w fun e w' => e = .returned (.int .i64 (G.idxOf (G.firstAt p l))) ∧ Below w.heap.size w w' := by
 obtain ⟨A, cap, rfl, hA⟩ := hv
 have HA := J hA; have HP := J hp
 clear hA hp
 go_enter Tryz.func122, Tryz.ntmps122
 go_wp2_with fail
 go_loopw [8] (fun i wr => ∃ k : Nat, k ≤ l.length ∧ i = .int .i64 k ∧ Hid (∀ (t : Nat) (b : G.Pod), t < k → l[t]? = some b → p b = false) ∧ Below w.heap.size w wr) (fun i _ => l.length - (intOf i).toNat)
 case atStart => exact ⟨0, by omega, rfl, fun t b ht => by omega, Below.refl _ _⟩
 obtain ⟨k, hk, rfl, hno, hb⟩ := hrel
 by_cases hlt : k < l.length
 ·obtain ⟨m, hm⟩ := G.get_some l hlt
  obtain ⟨b, off, rfl, hbl, hc⟩ := HA.u (by omega)
  have cl : ∀ (j : Nat) (u : Value), m.enc[j]? = some u → wr.cell? ⟨b, off + k * 3 + j, none⟩ = some u := fun j u hu => (hb.cell (p := ⟨b, off + k * 3 + j, none⟩) hbl).trans (hc k m j u hm hu)
  have c0 : wr.cell? ⟨b, off + k * 3, none⟩ = _ := cl 0 _ rfl
  have c1 := cl 1 _ rfl; have c2 := cl 2 _ rfl
  have i0 : (0 : Int) ≤ (k : Int) := by omega
  have i1 : (k : Int) < (l.length : Int) := by omega
  have HM := J hm
  clear hc cl hm
  go_wp2_with fail
  refine (HP.u m _ hb).mono ?_
  rintro e w1 ⟨rfl, hb1⟩
  have HB := J (hb.trans (hb1.mono hb.size))
  cases hpm : p m
  ·have HN := J (show ∀ (t : Nat) (b : G.Pod), t < k + 1 → l[t]? = some b → p b = false from fun t b ht hb => by
    rcases Nat.lt_succ_iff_lt_or_eq.mp ht with h | h
    ·exact hno.u t b h hb
    subst h; rw [HM.u] at hb; cases hb; exact hpm)
   clear hb hb1 hno hpm
   go_wp2_with fail
   go_roundw
   case rel => exact ⟨k + 1, by omega, by go_num, HN, HB.u⟩
   case measure => simp [intOf]; omega
  have HN := J (G.firstAt_some hno.u HM.u hpm)
  clear hb hb1 hno hpm
  go_wp2_with fail
  go_ret
  exact ⟨by rw [HN.u]; rfl, HB.u⟩
 have hke : k = l.length := by omega
 have HN := J (G.firstAt_none (p := p) (l := l) (fun t b hb => hno.u t b (by rw [hke]; exact G.get_lt hb) hb))
 have HB := J hb
 clear hb hno hke
 go_wp2_with fail
 go_ret
 exact ⟨by rw [HN.u]; rfl, HB.u⟩
theorem creIs (id : Int) (B : Nat) (m : G.Pod) (W : World) (h : W.cell? ⟨B, 0, none⟩ = some (.int .i64 id)) : Calls Tryz.prog 123 #[.agg #[.int .i64 m.id, .int .i64 m.state, .int .i64 m.load], .pointer (some ⟨B, 0, none⟩)] W fun e W' => e = .returned (.bool (G.podIs id m)) ∧ Below W.heap.size W W' := by
 have hB := World.block_lt_of_cell? W _ h
 simp only at hB
 go_enter Tryz.func123, Tryz.ntmps123
 go_wp2_with fail
 go_ret
 exact ⟨rfl, (Below.refl _ _).alloc (Nat.le_refl _) _⟩
theorem creFind (S : Nat → Prop) (g : Nat) (v : Value) (l : List G.Pod) (last most id : Int) (w : World) (h : FAt 78 S w g v l last most) :
  Calls Tryz.prog 87 #[.pointer (some ⟨g, 0, none⟩), .int .i64 id] w (FleRead w (.int .i64 (G.idxOf (G.findP l id)))) := by
 have HX := J (G.At.made w 3 #[.int .i64 id])
 have HB := J ((Below.refl w.heap.size w).alloc (Nat.le_refl _) (.cells #[.int .i64 id] 3))
 have HH := J (h.alloc (.cells #[.int .i64 id] 3))
 have hc : w.cell? ⟨g, 0, none⟩ = some v := h.head.here rfl
 have hc2 : (w.alloc (.cells #[.int .i64 id] 3)).cell? ⟨g, 0, none⟩ = some v := HH.u.head.here rfl
 have hgw : g < w.heap.size := h.head.inside
 clear h
 go_enter Tryz.func87, Tryz.ntmps87
 go_wp2_with fail
 refine (creF_index w.heap.size (G.podIs id) l v _ (HH.u.row.list G.Pod.enc_length) (by have := HH.u.small; omega) (fun m W hW => creIs id _ m W ((hW.cell (p := ⟨w.heap.size, 0, none⟩) HX.u.inside).trans (HX.u.here (i := 0) rfl)))).mono ?_
 rintro e w2 ⟨rfl, hb2⟩
 have HB2 := J (HB.u.trans (hb2.mono HB.u.size))
 clear hb2 hc hc2
 go_wp2_with fail
 go_ret
 exact ⟨rfl, HB2.u⟩
def CreOut (T : TypeId) (S : Nat → Prop) (w : World) (g : Nat) (x : Value) (l : List G.Pod) (last most : Int) (e : Ending) (w' : World) : Prop :=
 e = .returned x ∧ (∃ v, FAt T (G.Plus S w w') w' g v l last most) ∧ G.Chg S w w'
theorem cre_out {T : TypeId} {S : Nat → Prop} {w w' w1 : World} {g : Nat} {x x' v : Value} {l l' : List G.Pod} {last most : Int} (hb : Below w.heap.size w w1) (h : FAt T (G.Plus S w1 w') w' g v l' last most) (hc : G.Chg S w1 w') (e : x' = x) (el : l' = l) : CreOut T S w g x l last most (.returned x') w' := by
 have z1 := hb.size
 have z2 := hc.size
 refine ⟨by rw [e], ⟨v, el ▸ (h.mono (fun c hlt hb => ?_) (fun c hb => ?_))⟩, (G.Chg.of_below hb (Nat.le_refl _)).trans hc⟩
 ·rcases hb with hb | hb
  ·exact .inl hb
  exact .inr ⟨by omega, hlt⟩
 rcases hb with hb | hb
 ·exact h.lim c (.inl hb)
 exact hb.2
theorem cre_same {T : TypeId} {S : Nat → Prop} {w w' w1 : World} {g : Nat} {x x' v : Value} {l l' : List G.Pod} {last most : Int} (hb : Below w.heap.size w w1) (h : FAt T S w' g v l' last most) (hc : G.Chg S w1 w') (e : x' = x) (el : l' = l) : CreOut T S w g x l last most (.returned x') w' := cre_out hb h.up hc e el
theorem creTurn (S : Nat → Prop) (g : Nat) (v : Value) (l : List G.Pod) (last most id src : Int) (w : World) (h : FAt 78 S w g v l last most) (hs0 : 0 ≤ src) (hs1 : src ≤ 10) :
  Calls Tryz.prog 38 #[.pointer (some ⟨g, 0, none⟩), .int .i64 id, .int .i64 src] w (CreOut 78 S w g (.int .i64 (G.turnErr l id src)) (G.turnLst l id src (src + 1)) last most) := by
 have hs := h.small
 have HH := J h
 clear h
 go_enter Tryz.func38, Tryz.ntmps38
 go_wp2_with fail
 refine (creFind S g v l last most id _ HH.u).mono ?_
 rintro e w1 ⟨rfl, hb1⟩
 have HB := J hb1
 clear hb1
 cases hf : G.findP l id with
 | none =>
  rw [idx_none]
  have HR := J (show CreOut 78 S w g (.int .i64 (G.turnErr l id src)) (G.turnLst l id src (src + 1)) last most (.returned (.int .i64 4)) w1 from cre_same HB.u (HH.u.below HB.u) (G.Chg.refl _ _) (by unfold G.turnErr; rw [hf]) (by unfold G.turnLst; rw [hf]))
  clear hf
  go_wp2_with fail
  go_ret
  exact HR.u
 | some i =>
  rw [idx_some]
  obtain ⟨p, hp, _⟩ := G.findP_some hf
  obtain ⟨b, cap, rfl, hS, _, _, hbl, c0, c1, c2, fz⟩ := (HH.u.below HB.u).pod hp
  have hc : w1.cell? ⟨g, 0, none⟩ = some (.slice (some ⟨b, 0, none⟩) l.length cap) := (HH.u.below HB.u).head.here rfl
  have hil := G.get_lt hp
  have i0 : (0 : Int) ≤ (i : Int) := by omega
  have i1 : (i : Int) < (l.length : Int) := by omega
  have f1 := fz (i * 3 + 1)
  by_cases q : p.state = src
  ·have p1 := (HH.u.below HB.u).put (by decide) (k := i) (j := 1) (r' := { p with state := src + 1 }) (u := .int .i64 (src + 1)) hp (by decide) rfl
   have HR := J (show CreOut 78 S w g (.int .i64 (G.turnErr l id src)) (G.turnLst l id src (src + 1)) last most (.returned (.int .i64 0)) _ from cre_same HB.u p1.1 p1.2 (by unfold G.turnErr; rw [hf]; simp only [hp]; rw [if_pos q]) (by unfold G.turnLst; rw [hf]; simp only [hp]; rw [if_pos q]))
   have q2 : (p.state != src) = false := by simp [q]
   clear hf hp p1 c0 c2 fz q
   go_wp2_with fail
   go_ret
   exact HR.u
  have HR := J (show CreOut 78 S w g (.int .i64 (G.turnErr l id src)) (G.turnLst l id src (src + 1)) last most (.returned (.int .i64 7)) w1 from cre_same HB.u (HH.u.below HB.u) (G.Chg.refl _ _) (by unfold G.turnErr; rw [hf]; simp only [hp]; rw [if_neg q]) (by unfold G.turnLst; rw [hf]; simp only [hp]; rw [if_neg q]))
  have q2 : (p.state != src) = true := by simp [q]
  clear hf hp c0 c2 fz q f1
  go_wp2_with fail
  go_ret
  exact HR.u
theorem creCrash (S : Nat → Prop) (g : Nat) (v : Value) (l : List G.Pod) (last most id : Int) (w : World) (h : FAt 78 S w g v l last most) (hu : l.Pairwise (fun a b => a.id < b.id)) :
  Calls Tryz.prog 39 #[.pointer (some ⟨g, 0, none⟩), .int .i64 id] w (CreOut 78 S w g (.tuple #[.int .i64 (G.crashNum l id), .int .i64 (G.crashErr l id)]) (G.crashLst l id) last most) := by
 have hs := h.small
 have HH := J h; have HU := J hu
 clear h hu
 go_enter Tryz.func39, Tryz.ntmps39
 go_wp2_with fail
 refine (creFind S g v l last most id _ HH.u).mono ?_
 rintro e w1 ⟨rfl, hb1⟩
 have HB := J hb1
 clear hb1
 cases hf : G.findP l id with
 | none =>
  rw [idx_none]
  have HR := J (show CreOut 78 S w g (.tuple #[.int .i64 (G.crashNum l id), .int .i64 (G.crashErr l id)]) (G.crashLst l id) last most (.returned (.tuple #[.int .i64 0, .int .i64 4])) w1 from cre_same HB.u (HH.u.below HB.u) (G.Chg.refl _ _) (by unfold G.crashErr G.crashNum; rw [hf]) (by unfold G.crashLst; rw [hf]))
  clear hf
  go_wp2_with fail
  go_ret2
  exact HR.u
 | some i =>
  rw [idx_some]
  obtain ⟨p, hp, rfl⟩ := G.findP_some hf
  obtain ⟨b, cap, rfl, hS, _, _, hbl, c0, c1, c2, fz⟩ := (HH.u.below HB.u).pod hp
  have hc : w1.cell? ⟨g, 0, none⟩ = some (.slice (some ⟨b, 0, none⟩) l.length cap) := (HH.u.below HB.u).head.here rfl
  have hil := G.get_lt hp
  have i0 : (0 : Int) ≤ (i : Int) := by omega
  have i1 : (i : Int) < (l.length : Int) := by omega
  have HE := J (show G.crashErr l p.id = 0 ∧ G.crashNum l p.id = p.load ∧ G.crashLst l p.id = l.filter (G.otherId p.id) by
   unfold G.crashErr G.crashNum G.crashLst; rw [hf]; exact ⟨rfl, by simp only; unfold G.loadAt; rw [hp]; rfl, (G.filter_erase HU.u hp).symm⟩)
  clear hf hp c0 c1 fz
  go_wp2_with fail
  refine (creOut S g _ l last most p.id _ (HH.u.below HB.u)).mono ?_
  rintro e w2 ⟨⟨x, rfl⟩, ⟨v2, h2⟩, ch2⟩
  have HR := J (show CreOut 78 S w g (.tuple #[.int .i64 (G.crashNum l p.id), .int .i64 (G.crashErr l p.id)]) (G.crashLst l p.id) last most (.returned (.tuple #[.int .i64 p.load, .int .i64 0])) w2 from cre_out HB.u h2 ch2 (by rw [HE.u.1, HE.u.2.1]) HE.u.2.2.symm)
  clear h2 ch2 hc c2
  go_wp2_with fail
  go_ret2
  exact HR.u
theorem creDone (S : Nat → Prop) (g : Nat) (v : Value) (l : List G.Pod) (last most id : Int) (w : World) (h : FAt 78 S w g v l last most) (hld : ∀ p ∈ l, 0 ≤ p.load ∧ p.load ≤ 1000) (hu : l.Pairwise (fun a b => a.id < b.id)) :
  Calls Tryz.prog 43 #[.pointer (some ⟨g, 0, none⟩), .int .i64 id] w (CreOut 78 S w g (.int .i64 (G.podDoneErr l id)) (G.podDoneLst l id) last most) := by
 have hs := h.small
 have HH := J h; have HLd := J hld; have HU := J hu
 clear h hld hu
 go_enter Tryz.func43, Tryz.ntmps43
 go_wp2_with fail
 refine (creFind S g v l last most id _ HH.u).mono ?_
 rintro e w1 ⟨rfl, hb1⟩
 have HB := J hb1
 clear hb1
 cases hf : G.findP l id with
 | none =>
  rw [idx_none]
  have HR := J (show CreOut 78 S w g (.int .i64 (G.podDoneErr l id)) (G.podDoneLst l id) last most (.returned (.int .i64 4)) w1 from cre_same HB.u (HH.u.below HB.u) (G.Chg.refl _ _) (by unfold G.podDoneErr; rw [hf]) (by unfold G.podDoneLst; rw [hf]))
  clear hf
  go_wp2_with fail
  go_ret
  exact HR.u
 | some i =>
  rw [idx_some]
  obtain ⟨p, hp, rfl⟩ := G.findP_some hf
  obtain ⟨b, cap, rfl, hS, _, _, hbl, c0, c1, c2, fz⟩ := (HH.u.below HB.u).pod hp
  have hc : w1.cell? ⟨g, 0, none⟩ = some (.slice (some ⟨b, 0, none⟩) l.length cap) := (HH.u.below HB.u).head.here rfl
  have hil := G.get_lt hp
  have i0 : (0 : Int) ≤ (i : Int) := by omega
  have i1 : (i : Int) < (l.length : Int) := by omega
  have hla : G.loadAt l i = p.load := by unfold G.loadAt; rw [hp]; rfl
  have l0 := (HLd.u p (List.mem_of_getElem? hp)).1
  have l1 := (HLd.u p (List.mem_of_getElem? hp)).2
  have f2 := fz (i * 3 + 2)
  have HP := J hp
  by_cases q : p.load = 0
  ·have HR := J (show CreOut 78 S w g (.int .i64 (G.podDoneErr l p.id)) (G.podDoneLst l p.id) last most (.returned (.int .i64 7)) w1 from cre_same HB.u (HH.u.below HB.u) (G.Chg.refl _ _) (by unfold G.podDoneErr; rw [hf]; simp only; rw [hla, if_pos q]) (by unfold G.podDoneLst; rw [hf]; simp only [hp]; rw [if_pos q]))
   rw [q] at c2
   clear hf hp hla c0 c1 fz f2 q l0 l1
   go_wp2_with fail
   go_ret
   exact HR.u
  have q2 : (p.load == 0) = false := by simp only [beq_eq_false_iff_ne]; exact q
  have q3 : 1 ≤ p.load := by omega
  have p1 := (HH.u.below HB.u).put (by decide) (k := i) (j := 2) (r' := { p with load := p.load - 1 }) (u := .int .i64 (p.load - 1)) hp (by decide) rfl
  have P1 := J p1
  have HErr := J (show G.podDoneErr l p.id = 0 by unfold G.podDoneErr; rw [hf]; simp only; rw [hla, if_neg q])
  have HLst := J (show G.podDoneLst l p.id = if p.state = 4 ∧ p.load - 1 = 0 then l.eraseIdx i else l.set i { p with load := p.load - 1 } by unfold G.podDoneLst; rw [hf]; simp only [hp]; rw [if_neg q])
  have HFi := J (show (l.set i { p with load := p.load - 1 }).filter (G.otherId p.id) = l.eraseIdx i by
   have := G.filter_erase (l := l.set i { p with load := p.load - 1 }) (p := { p with load := p.load - 1 }) (G.up_set HU.u hp rfl) (List.getElem?_set_self hil)
   rw [List.eraseIdx_set_eq] at this
   exact this)
  obtain ⟨b', cap', e, _, _, _, _, e0, e1, e2, _⟩ := p1.1.pod (List.getElem?_set_self hil)
  rw [List.length_set] at e
  cases e
  have HE1 := J e1; have HE2 := J e2
  clear p1 hf hp hla c0 c1 fz q e0 e1 e2
  go_upto_region 7 with fail
  have hcP : (w1.setCell ⟨b, i * 3 + 2, none⟩ (.int .i64 (p.load - 1))).cell? ⟨g, 0, none⟩ = some (.slice (some ⟨b, 0, none⟩) l.length cap) := P1.u.1.head.here rfl
  have e1 := HE1.u; have e2 := HE2.u
  have q4 : 0 ≤ p.load - 1 := by omega
  clear f2 c2 q2 q3 l0 l1 hc
  obtain ⟨W, hW⟩ : ∃ W, Hid (w1.setCell ⟨b, i * 3 + 2, none⟩ (.int .i64 (p.load - 1)) = W) := ⟨_, J rfl⟩
  rw [hW.u] at P1 hcP e1 e2 ⊢
  clear hW HE1 HE2
  generalize p.load - 1 = pl at P1 HLst e2 q4 HFi ⊢
  by_cases d2 : pl = 0
  ·by_cases d : p.state = 4
   ·have HR0 := J (show G.podDoneLst l p.id = (l.set i ⟨p.id, p.state, pl⟩).filter (G.otherId p.id) by rw [HLst.u, if_pos ⟨d, d2⟩, HFi.u])
    rw [d] at e1
    rw [d2] at e2
    clear d d2 q4
    go_wp2_with fail
    refine (creOut S g _ _ last most p.id _ P1.u.1).mono ?_
    rintro e w2 ⟨⟨x, rfl⟩, ⟨v2, h2⟩, ch2⟩
    have HR := J (show CreOut 78 S w g (.int .i64 (G.podDoneErr l p.id)) (G.podDoneLst l p.id) last most (.returned (.int .i64 0)) w2 from cre_out HB.u (h2.mono (fun c hlt hb => by
     have z := P1.u.2.size
     rcases hb with hb | hb
     ·exact .inl hb
     ·exact .inr ⟨by omega, hb.2⟩) (fun c hb => by
     have z := ch2.size
     rcases hb with hb | hb
     ·exact h2.lim c (.inl hb)
     exact hb.2)) (P1.u.2.trans ch2) (by rw [HErr.u]) HR0.u.symm)
    clear h2 ch2 hcP e1 e2
    go_wp2_with fail
    go_ret
    exact HR.u
   have d3 : (p.state == 4) = false := by simp only [beq_eq_false_iff_ne]; exact d
   have HR := J (show CreOut 78 S w g (.int .i64 (G.podDoneErr l p.id)) (G.podDoneLst l p.id) last most (.returned (.int .i64 0)) W from cre_same HB.u P1.u.1 P1.u.2 (by rw [HErr.u]) (by rw [HLst.u, if_neg (fun c => d c.1)]))
   rw [d2] at e2
   clear d d2
   go_wp2_with fail
   go_ret
   exact HR.u
  have d3 : (pl == 0) = false := by simp only [beq_eq_false_iff_ne]; exact d2
  have HR := J (show CreOut 78 S w g (.int .i64 (G.podDoneErr l p.id)) (G.podDoneLst l p.id) last most (.returned (.int .i64 0)) W from cre_same HB.u P1.u.1 P1.u.2 (by rw [HErr.u]) (by rw [HLst.u, if_neg (fun c => d2 c.2)]))
  clear d2
  go_wp2_with fail
  go_ret
  exact HR.u
open Go.RowKit
theorem refGive_succ {most : Int} {l : List G.Pod} {k : Nat} {p : G.Pod} (hp : l[k]? = some p) : G.refGive most l (k + 1) = if ((p.state == 3) && decide (p.load < most)) && G.beats G.ltLoad l (G.refGive most l k) p then some k else G.refGive most l k := G.pick_succ hp
theorem refPick_succ {l : List G.Pod} {k : Nat} {p : G.Pod} (hp : l[k]? = some p) : G.refPick l (k + 1) = if G.lives p && G.beats G.refLess l (G.refPick l k) p then some k else G.refPick l k := G.pick_succ hp
theorem giveAt_ref (l : List G.Pod) (most : Int) : G.refGive most l l.length = G.giveAt l most := G.refGive_is l.length
theorem creGive (S : Nat → Prop) (g : Nat) (v : Value) (l : List G.Pod) (last most : Int) (w : World) (h : FAt 78 S w g v l last most) (hm : most ≤ 1000) (hld : ∀ p ∈ l, 0 ≤ p.load) :
  Calls Tryz.prog 90 #[.pointer (some ⟨g, 0, none⟩)] w (CreOut 78 S w g (.tuple #[.int .i64 (G.giveNum l most), .int .i64 (G.giveErr l most)]) (G.giveLst l most) last most) := by
 obtain ⟨A, cap, rfl, _, _, _⟩ := h.row.slice
 have hs := h.small
 have HH := J h; have HLd := J hld
 clear h hld
 go_enter Tryz.func90, Tryz.ntmps90
 go_wp2_with fail
 go_loopw [4, 5] (fun n i wr => ∃ k : Nat, k ≤ l.length ∧ i = .int .i64 k ∧ n = .int .i64 (G.idxOf (G.refGive most l k)) ∧ Hid (Below w.heap.size w wr)) (fun _ i _ => l.length - (intOf i).toNat)
 case atStart => exact ⟨0, by omega, rfl, rfl, J (Below.refl _ _)⟩
 obtain ⟨k, hk, rfl, rfl, HB⟩ := hrel
 have hc : wr.cell? ⟨g, 0, none⟩ = some (.slice A l.length cap) := (HH.u.below HB.u).head.here rfl
 have hmo : wr.cell? ⟨g, 2, none⟩ = some (.int .i64 most) := (HH.u.below HB.u).head.here rfl
 by_cases hlt : k < l.length
 ·obtain ⟨p, hp⟩ := G.get_some l hlt
  obtain ⟨b, cap', e, hS, _, _, hbl, c0, c1, c2, _⟩ := (HH.u.below HB.u).pod hp
  cases e
  have i0 : (0 : Int) ≤ (k : Int) := by omega
  have i1 : (k : Int) < (l.length : Int) := by omega
  have HU := J (refGive_succ (most := most) hp)
  have HG := J (show ∀ i, G.refGive most l k = some i → i < k ∧ ∃ q, l[i]? = some q from fun i hi => by obtain ⟨h1, q, h2, _⟩ := G.pick_lt hi; exact ⟨h1, q, h2⟩)
  clear c0
  cases hf : (p.state == 3)
  ·have HN := J (show G.refGive most l (k + 1) = G.refGive most l k by rw [HU.u, hf]; rfl)
   clear hp HU
   go_wp2_with fail
   go_quiet (fail)
   go_wp2_with fail
   go_roundw
   case rel => exact ⟨k + 1, by omega, by go_num, by rw [HN.u], J (fle_drewN HB.u _)⟩
   case measure => simp [intOf]; omega
  by_cases hlm : p.load < most
  ·have hlm' : decide (p.load < most) = true := decide_eq_true hlm
   cases hj : G.refGive most l k with
   | none =>
    have HN := J (show G.refGive most l (k + 1) = some k by rw [HU.u, hj, hf, hlm']; rfl)
    simp only [G.idxOf]
    clear hj hp HU
    go_wp2_with fail
    go_quiet (fail)
    go_wp2_with fail
    go_roundw
    case rel => exact ⟨k + 1, by omega, by go_num, by rw [HN.u] <;> rfl, J (fle_drewN HB.u _)⟩
    case measure => simp [intOf]; omega
   | some j =>
    obtain ⟨hjk, q, hq, _⟩ := G.pick_lt hj
    obtain ⟨b', cap', e, _, _, _, _, d0, d1, d2, _⟩ := (HH.u.below HB.u).pod hq
    cases e
    simp only [G.idxOf]
    have j0 : (0 : Int) ≤ (j : Int) := by omega
    have j1 : (j : Int) < (l.length : Int) := by omega
    have jn : decide ((j : Int) < 0) = false := decide_eq_false (by omega)
    by_cases hl2 : p.load < q.load
    ·have HN := J (show G.refGive most l (k + 1) = some k by rw [HU.u, hj, hf, hlm']; simp only [G.beats, hq, G.ltLoad, decide_eq_true hl2]; rfl)
     clear hj hq hp HU d0 d1
     go_wp2_with fail
     go_quiet (fail)
     go_wp2_with fail
     go_roundw
     case rel => exact ⟨k + 1, by omega, by go_num, by rw [HN.u] <;> rfl, J (fle_drewN HB.u _)⟩
     case measure => simp [intOf]; omega
    have hl2' : decide (p.load < q.load) = false := decide_eq_false hl2
    have HN := J (show G.refGive most l (k + 1) = some j by rw [HU.u, hj, hf, hlm']; simp only [G.beats, hq, G.ltLoad, hl2']; rfl)
    clear hj hq hp HU d0 d1
    go_wp2_with fail
    go_quiet (fail)
    go_wp2_with fail
    go_roundw
    case rel => exact ⟨k + 1, by omega, by go_num, by rw [HN.u] <;> rfl, J (fle_drewN HB.u _)⟩
    case measure => simp [intOf]; omega
  have hlm' : decide (p.load < most) = false := decide_eq_false hlm
  have HN := J (show G.refGive most l (k + 1) = G.refGive most l k by rw [HU.u, hf, hlm']; rfl)
  clear hp HU
  go_wp2_with fail
  go_quiet (fail)
  go_wp2_with fail
  go_roundw
  case rel => exact ⟨k + 1, by omega, by go_num, by rw [HN.u], J (fle_drewN HB.u _)⟩
  case measure => simp [intOf]; omega
 have hke : k = l.length := by omega
 subst hke
 rw [giveAt_ref]
 cases hg : G.giveAt l most with
 | none =>
  simp only [G.idxOf]
  have HR := J (show CreOut 78 S w g (.tuple #[.int .i64 (G.giveNum l most), .int .i64 (G.giveErr l most)]) (G.giveLst l most) last most (.returned (.tuple #[.int .i64 0, .int .i64 4])) wr from cre_same HB.u (HH.u.below HB.u) (G.Chg.refl _ _) (by unfold G.giveErr G.giveNum; rw [hg]) (by unfold G.giveLst; rw [hg]))
  clear hg hmo
  go_wp2_with fail
  go_ret2
  exact HR.u
 | some i =>
  simp only [G.idxOf]
  obtain ⟨p, hp, hst, hlm⟩ := G.giveAt_some hg
  obtain ⟨b, cap', e, hS, _, _, hbl, c0, c1, c2, fz⟩ := (HH.u.below HB.u).pod hp
  cases e
  have hil := G.get_lt hp
  have i0 : (0 : Int) ≤ (i : Int) := by omega
  have i1 : (i : Int) < (l.length : Int) := by omega
  have l0 := HLd.u p (List.mem_of_getElem? hp)
  have l1 : p.load + 1 ≤ 1000 := by omega
  have f2 := fz (i * 3 + 2)
  have p1 := (HH.u.below HB.u).put (by decide) (k := i) (j := 2) (r' := { p with load := p.load + 1 }) (u := .int .i64 (p.load + 1)) hp (by decide) rfl
  have HR := J (show CreOut 78 S w g (.tuple #[.int .i64 (G.giveNum l most), .int .i64 (G.giveErr l most)]) (G.giveLst l most) last most (.returned (.tuple #[.int .i64 p.id, .int .i64 0])) _ from cre_same HB.u p1.1 p1.2 (by unfold G.giveErr G.giveNum; rw [hg]; simp only [hp]; rfl) (by unfold G.giveLst; rw [hg]; simp only [hp]))
  obtain ⟨b', cap', e, _, _, _, _, e0, e1, e2, _⟩ := p1.1.pod (List.getElem?_set_self hil)
  rw [List.length_set] at e
  cases e
  have hcP := p1.1.head.here (i := 0) rfl
  clear hg hp p1 hst hlm c0 c1 fz e1 e2 hmo
  go_wp2_with fail
  go_ret2
  exact HR.u
end Go.Proofs.YtidonhndeohdlaaGreat
