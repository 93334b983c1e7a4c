/- The contract of plan.Parse. -/
import Derived.Test.YtoidcbpcnikejaaGreatDoorDqPrdI
import Derived.Test.YtoidcbpcnikejaaGreatDoorDqPrdV
import Derived.Test.YtoidcbpcnikejaaGreatDoorDq13
set_option linter.unusedVariables false
set_option linter.unusedSimpArgs false
set_option maxRecDepth 100000
set_option maxHeartbeats 12800000
namespace Go.Proofs.YtoidcbpcnikejaaGreatDoor
open Go.RowKit
theorem results_cell3 {P : Program} {fn : Func} {p q r : Tmp} {ty : TypeId} (h : fn.results = #[.cell p ty, .tmp q, .tmp r]) (tmps : Array Value) (w : World) (g : Nat) (t : TypeId) (cs : Array Value) (fr : Nat × Nat) (d : TypeDesc)
  (hp : tmps.getD p undef = .pointer (some ⟨g, 0, none⟩)) (hg : w.heap[g]? = some (.cells cs t fr))
  (hu : P.underlying ty = some d) (hd : (match d with | .struct _ | .array _ _ => true | _ => false) = true) (hi : (P.info? ty).map (·.size) = some cs.size) (v1 v2 : Value) (h1 : tmps.getD q undef = v1) (h2 : tmps.getD r undef = v2) :
  (results fn tmps).run P w = .ok (.tuple #[.agg cs, v1, v2]) w := by
 have hp' : tmps[p]?.getD undef = .pointer (some ⟨g, 0, none⟩) := by simpa using hp
 have h1' : tmps[q]?.getD undef = v1 := by simpa using h1
 have h2' : tmps[r]?.getD undef = v2 := by simpa using h2
 simp [results, h, hp', h1', h2', asAddr, run_loadVar_row w g t ty cs fr d hg hu hd hi]
theorem two_below {W3 W4 : World} {g : Nat} (h : G.Chg (fun b => b = g ∨ b = g + 1) W3 W4) (hB : g ≤ W3.heap.size) : Below g W3 W4 := h.below hB (fun b hb e => by have e2 : b = g ∨ b = g + 1 := e; omega)
theorem row_set2 {w : World} {g : Nat} {t : TypeId} {old : Array Value} (h : G.At w g t old) (cs : Array Value) : G.At (w.setRow g cs) g t cs := setRow_heap w g old cs t (0, 0) h
theorem below_row {B : Nat} {a w : World} (h : Below B a w) {g : Nat} (hg : B ≤ g) (cs : Array Value) : Below B a (w.setRow g cs) :=
 ⟨h.os, h.tape, h.output, by rw [setRow_size]; exact h.size, fun k hk => (setRow_other w g k cs (by omega)).trans (h.block k hk)⟩
theorem zero_built : Tryz.prog.built 101 [] = some (plnC zeroP (.slice none 0 0)) := by kernel_rfl
def PlanPost (s : ByteArray) (w : World) (e : Ending) (w' : World) : Prop :=
 ∃ v, e = .returned (.tuple #[.agg (plnC (readR s).1 v), .int .i64 ((readR s).2.1 : Int), .int .i64 (readR s).2.2]) ∧ G.ListIn w' 17 Trg.enc v (readR s).1.trigs ∧ Below w.heap.size w w'
theorem post_zero {s : ByteArray} {w w' : World} {k : Nat} {x : Int} (h : readR s = (zeroP, k, x)) (hb : Below w.heap.size w w') : PlanPost s w (.returned (.tuple #[.agg (plnC zeroP (.slice none 0 0)), .int .i64 (k : Int), .int .i64 x])) w' := by
 refine ⟨.slice none 0 0, by rw [h], ?_, hb⟩
 rw [h]
 exact ⟨none, 0, rfl, fun h0 => absurd h0 (Nat.lt_irrefl 0)⟩
theorem read_long {s : ByteArray} (h : 2048 < s.size) : readR s = (zeroP, 0, 2) := if_pos h
theorem read_none {s : ByteArray} {k : Nat} (h : s.size ≤ 2048) (hr : readGo (s.size + 1) 0 zeroP s = (none, k)) : readR s = (zeroP, k, 3) := by
 unfold readR; rw [if_neg (by omega), hr]
theorem read_some {s : ByteArray} {k : Nat} {p : Pln} (h : s.size ≤ 2048) (hr : readGo (s.size + 1) 0 zeroP s = (some p, k)) : readR s = if planE p = 0 then (p, 0, 0) else (zeroP, 0, planE p) := by
 unfold readR; rw [if_neg (by omega), hr]
theorem exec_built {P : Program} {ev : Operand → Value} {o : Oper} {t : TypeId} {parts : Array (Nat × Operand)} {l : List (Nat × Value)} {cells : Array Value} {W : World} (ho : o.op = .build t parts) (hp : parts.toList.map (fun y => (y.1, ev y.2)) = l) (h : P.built t l = some cells) : (execOp ev o).run P W = .ok (.value (.agg cells)) W := by
 subst hp
 rw [← Array.toList_map] at h
 unfold execOp
 simp only [ho, Sem.run_bind, Sem.run_pure, Result.andThen_ok, run_build W t _ cells h]
theorem step_store_row {P : Program} {ops : Array Oper} {o : Oper} {a : Act} {w : World} {K : Act → World → Prop} {Q : Exit → Act → World → Prop} {E : Prop} (hgd : o.guard = none) (ty : TypeId) (x y : Operand) (ho : o.op = .store ty x y) (g : Nat) (cells : Array Value) (hx : a.eval x = .pointer (some ⟨g, 0, none⟩)) (hy : a.eval y = .agg cells)
  (t : TypeId) (old : Array Value) (hg : w.heap[g]? = some (.cells old t (0, 0))) (hi : (P.info? ty).map (·.size) = some cells.size) (hold : old.size = cells.size) (h1 : cells.all (·.oneCell') = true)
  (h : K (a.put o.dst undef) (w.setRow g cells)) : if Region.wanted o (yielded ops a.tmps) = true then Oper.wp P o a w K Q else E := by
 have hw : Region.wanted o (yielded ops a.tmps) = true := by simp [Region.wanted, hgd]
 rw [if_pos hw]
 exact wp_store_row ty x y ho g cells hx hy t old hg hi hold h1 h
theorem chg_row (w : World) (g : Nat) (cs : Array Value) : G.Chg (fun b => b = g) w (w.setRow g cs) := ⟨rfl, rfl, rfl, by rw [setRow_size]; exact Nat.le_refl _, fun k hk hs => setRow_other w g k cs (fun e => hs e)⟩
theorem line_name {i : Nat} {p q : Pln} {ws : List ByteArray} (h0 : 1 ≤ i) (h : lineN i p ws = some q) : q.name = p.name := by
 rcases i with _ | _ | _ | _ | i
 ·omega
 ·have e := ite_some (c := rowOk wdRest ws = true) h
  rw [← e]
 ·have e := ite_some (c := rowOk wdUp ws = true) h
  rw [← e]
 ·have e := ite_some (c := rowOk wdDown ws = true) h
  rw [← e]
 have h' : (trigN ws).map (fun t => { p with trigs := p.trigs ++ [t] }) = some q := h
 obtain ⟨t, ht, rfl⟩ := Option.map_eq_some_iff.1 h'
 rfl
theorem go_name : ∀ (f i : Nat) (p : Pln) (rest : ByteArray) (q : Pln) (k : Nat), 1 ≤ i → readGo f i p rest = (some q, k) → q.name = p.name
 | 0, i, p, rest, q, k, _, h => by cases h
 | f + 1, i, p, rest, q, k, h0, h => by
  unfold readGo at h
  split at h
  ·cases h; rfl
  split at h
  ·cases h
  split at h
  ·cases h
  rename_i p' hp
  rw [go_name f (i + 1) p' _ q k (by omega) h, line_name h0 hp]
theorem read_name {f : Nat} {p q : Pln} {s : ByteArray} {k : Nat} (h : readGo f 0 p s = (some q, k)) : q.name.size ≤ 16 := by
 cases f with
 | zero => cases h
 | succ f =>
  unfold readGo at h
  rw [if_neg (by omega)] at h
  split at h
  ·cases h
  split at h
  ·cases h
  rename_i p' hp
  have e0 : (if headOk (wordsOf s) = true then some { p with name := G.pieceAt (wordsOf s) 1, mn := wV (G.pieceAt (wordsOf s) 2), mx := wV (G.pieceAt (wordsOf s) 3), poll := wV (G.pieceAt (wordsOf s) 4), cool := wV (G.pieceAt (wordsOf s) 5) } else none) = some p' := hp
  rw [go_name f (0 + 1) p' _ q k (by omega) h]
  split at e0
  ·rename_i hh
   cases e0
   unfold headOk nameOk at hh
   simp only [Bool.and_eq_true, decide_eq_true_eq] at hh
   have := wiB_iff.1 hh.2.2.1.2
   show (G.pieceAt (wordsOf s) 1).size ≤ 16
   omega
  cases e0
def PrsAt (w0 wr : World) (R : Option Pln × Nat) (m : Int) (g gp : Nat) (k : Nat) (b : Bool) : Prop :=
 (b = true → ∃ i p rest v, TrS w0 wr R m g gp v i p rest ∧ 4 ≤ i ∧ rest.size < k) ∧ (b = false → BadT w0 wr R g)
theorem planCheckV (p : Pln) (A : Option Addr) (cap : Nat) (w : World) (ht : G.ListIn w 17 Trg.enc (.slice A p.trigs.length cap) p.trigs) (hf : ∀ t ∈ p.trigs, t.fits) (hn : p.name.size ≤ 9223372036854775807) (hl : p.trigs.length ≤ 9223372036854775807) :
  Calls Tryz.prog 77 #[.agg (plnC p (.slice A p.trigs.length cap))] w fun e w' => e = .returned (.int .i64 (planE p)) ∧ Below w.heap.size w w' := by
 obtain ⟨name, mn, mx, poll, cool, tol, back, after, shift, ⟨u0, u1, u2, u3⟩, ⟨d0, d1, d2, d3⟩, ts⟩ := p
 exact planCheck name mn mx poll cool tol back after shift u0 u1 u2 u3 d0 d1 d2 d3 A cap ts w ht hf hn hl
theorem planParse (s : ByteArray) (m : Int) (w : World) (hm : w.cell? ⟨0, 0, none⟩ = some (.int .i64 m)) (hs : s.size ≤ 9223372036854775807) : Calls Tryz.prog 54 #[.string s] w (PlanPost s w) := by
 have hml := World.block_lt_of_cell? _ _ hm
 have HZ := J (show G.At (w.alloc (.cells #[.string ⟨#[]⟩, .int .i64 0, .int .i64 0, .int .i64 0, .int .i64 0, .int .i64 0, .int .i64 0, .int .i64 0, .int .i64 0, .int .i64 0, .int .i64 0, .int .i64 0, .int .i64 0, .int .i64 0, .int .i64 0, .int .i64 0, .int .i64 0, .slice none 0 0] 101)) w.heap.size 101 (plnC zeroP (.slice none 0 0)) from G.At.made w 101 (plnC zeroP (.slice none 0 0)))
 have HB := J ((Below.refl w.heap.size w).alloc (Nat.le_refl _) (.cells #[.string ⟨#[]⟩, .int .i64 0, .int .i64 0, .int .i64 0, .int .i64 0, .int .i64 0, .int .i64 0, .int .i64 0, .int .i64 0, .int .i64 0, .int .i64 0, .int .i64 0, .int .i64 0, .int .i64 0, .int .i64 0, .int .i64 0, .int .i64 0, .slice none 0 0] 101))
 have HM := J hm
 by_cases hlen : 2048 < s.size
 ·have hl : (2048 : Int) < (s.size : Int) := by omega
  have HR := J (read_long hlen)
  clear hlen hm
  go_enter Tryz.func54, Tryz.ntmps54
  go_upto_region 1 with fail
  generalize w.alloc (.cells #[.string ⟨#[]⟩, .int .i64 0, .int .i64 0, .int .i64 0, .int .i64 0, .int .i64 0, .int .i64 0, .int .i64 0, .int .i64 0, .int .i64 0, .int .i64 0, .int .i64 0, .int .i64 0, .int .i64 0, .int .i64 0, .int .i64 0, .int .i64 0, .slice none 0 0] 101) = W1 at HZ HB ⊢
  go_wp2_with (first | refine build_law rfl 101 _ rfl [] rfl _ zero_built ?_ | refine wpList_store_row rfl 101 (.tmp 2) (.tmp 12) rfl w.heap.size (plnC zeroP (.slice none 0 0)) rfl rfl 101 (plnC zeroP (.slice none 0 0)) HZ.u (by kernel_rfl) rfl (by kernel_rfl) ?_)
  have hA := row_set2 HZ.u (plnC zeroP (.slice none 0 0))
  refine bodyPost_ret (v := .tuple #[.agg (plnC zeroP (.slice none 0 0)), .int .i64 0, .int .i64 2]) (by exact results_cell3 Tryz.results54 _ _ w.heap.size 101 _ (0, 0) _ rfl hA Tryz.underlying101 rfl (by kernel_rfl) _ _ rfl rfl) rfl ?_
  exact post_zero HR.u (below_row HB.u (Nat.le_refl _) _)
 have hl : (s.size : Int) ≤ 2048 := by omega
 have hl2 : s.size ≤ 2048 := by omega
 obtain ⟨R, hR⟩ : ∃ R, readGo (s.size + 1) 0 zeroP s = R := ⟨_, rfl⟩
 have HRd := J (show Reads 0 zeroP s R from ⟨s.size + 1, by omega, hR⟩)
 have HNo := J (fun (k : Nat) (h : R = (none, k)) => read_none hl2 (hR.trans h))
 have HYes := J (fun (k : Nat) (p : Pln) (h : R = (some p, k)) => read_some hl2 (hR.trans h))
 have HNm := J (fun (p : Pln) (k : Nat) (h : R = (some p, k)) => read_name (hR.trans h))
 clear hlen hm hR
 go_enter Tryz.func54, Tryz.ntmps54
 go_upto_region 1 with fail
 generalize w.alloc (.cells #[.string ⟨#[]⟩, .int .i64 0, .int .i64 0, .int .i64 0, .int .i64 0, .int .i64 0, .int .i64 0, .int .i64 0, .int .i64 0, .int .i64 0, .int .i64 0, .int .i64 0, .int .i64 0, .int .i64 0, .int .i64 0, .int .i64 0, .int .i64 0, .slice none 0 0] 101) = W1 at HZ HB ⊢
 have hzz := HZ.u.inside
 have HG := J ((G.At.made W1 146 #[.string s, .int .i64 0]).alloc (.cells #[.string ⟨#[]⟩, .int .i64 0, .int .i64 0, .int .i64 0, .int .i64 0, .int .i64 0, .int .i64 0, .int .i64 0, .int .i64 0, .int .i64 0, .int .i64 0, .int .i64 0, .int .i64 0, .int .i64 0, .int .i64 0, .int .i64 0, .int .i64 0, .slice none 0 0] 101))
 have HP := J (show G.At ((W1.alloc (.cells #[.string s, .int .i64 0] 146)).alloc (.cells #[.string ⟨#[]⟩, .int .i64 0, .int .i64 0, .int .i64 0, .int .i64 0, .int .i64 0, .int .i64 0, .int .i64 0, .int .i64 0, .int .i64 0, .int .i64 0, .int .i64 0, .int .i64 0, .int .i64 0, .int .i64 0, .int .i64 0, .int .i64 0, .slice none 0 0] 101)) (W1.alloc (.cells #[.string s, .int .i64 0] 146)).heap.size 101 (plnC zeroP (.slice none 0 0)) from G.At.made _ 101 (plnC zeroP (.slice none 0 0)))
 have hbb : Below W1.heap.size W1 ((W1.alloc (.cells #[.string s, .int .i64 0] 146)).alloc (.cells #[.string ⟨#[]⟩, .int .i64 0, .int .i64 0, .int .i64 0, .int .i64 0, .int .i64 0, .int .i64 0, .int .i64 0, .int .i64 0, .int .i64 0, .int .i64 0, .int .i64 0, .int .i64 0, .int .i64 0, .int .i64 0, .int .i64 0, .int .i64 0, .slice none 0 0] 101)) := ((Below.refl _ _).alloc (Nat.le_refl _) _).alloc (by simp) _
 have HZ3 := J (HZ.u.below hbb hzz)
 have HB3 := J (HB.u.trans (hbb.mono HB.u.size))
 have e1 : (W1.alloc (.cells #[.string s, .int .i64 0] 146)).heap.size = W1.heap.size + 1 := by simp
 rw [e1] at HP
 have HB1 := J hbb
 clear hbb e1
 go_upto_region 5 with fail
 generalize (W1.alloc (.cells #[.string s, .int .i64 0] 146)).alloc (.cells #[.string ⟨#[]⟩, .int .i64 0, .int .i64 0, .int .i64 0, .int .i64 0, .int .i64 0, .int .i64 0, .int .i64 0, .int .i64 0, .int .i64 0, .int .i64 0, .int .i64 0, .int .i64 0, .int .i64 0, .int .i64 0, .int .i64 0, .int .i64 0, .slice none 0 0] 101) = W3 at HG HP HZ3 HB3 HB1 ⊢
 have hz1 := HB.u.size
 have hs3 := HP.u.inside
 have HH := J (show HdS W3 W3 R m W1.heap.size (W1.heap.size + 1) (.slice none 0 0) 0 zeroP s from ⟨HRd.u, HP.u, HG.u, (HB3.u.cell (p := ⟨0, 0, none⟩) hml).trans HM.u, G.Chg.refl _ _, rfl, by omega, by omega, ⟨by omega, by omega, by omega⟩, hl2⟩)
 clear HG HP
 go_wp2_with fail
 refine (readerHead W3 R m W1.heap.size (W1.heap.size + 1) (.slice none 0 0) zeroP s HH.u).mono ?_
 rintro e W4 ⟨b0, rfl, ht0, hf0⟩
 have HL := J (show PrsAt W1 W4 R m W1.heap.size (W1.heap.size + 1) 2049 b0 from by
  refine ⟨fun h => ?_, fun h => ?_⟩
  ·obtain ⟨p, rest, hd⟩ := ht0 h
   have hb4 : Below W1.heap.size W1 W4 := HB1.u.trans (two_below hd.chg HB1.u.size)
   refine ⟨4, p, rest, _, ⟨hd.reads, hd.plan, by rw [hd.trigs]; exact G.OwnRow.nil _ _ _ _, hd.rd, hd.mx, by omega, hb4, by have := hd.sz; omega, by rw [hd.trigs]; simp, (by rw [hd.trigs]; intro t ht; cases ht), by omega, ⟨by omega, by omega⟩⟩, Nat.le_refl _, by have := hd.sz; omega⟩
  obtain ⟨k, rest, h1, h2, h3⟩ := hf0 h
  exact ⟨k, rest, h1, h2, HB1.u.trans (two_below h3 HB1.u.size)⟩)
 clear ht0 hf0 HH HB3 HRd HB1
 as_aux_lemma =>
 go_wp2_with fail
 go_loopg [7] 2049 (fun k y wr => ∃ b, y = .bool b ∧ Hid (PrsAt W1 wr R m W1.heap.size (W1.heap.size + 1) k b))
 case atStart => exact ⟨b0, rfl, HL⟩
 clear HL
 obtain ⟨b, rfl, HK⟩ := hrel
 cases b
 ·obtain ⟨k, rest, hk, hrd, hbl⟩ := HK.u.2 rfl
  have HPo := J (fun (w' : World) (hb : Below w.heap.size w w') => post_zero (HNo.u k hk) hb)
  have HZ4 := J (HZ.u.below hbl hzz)
  have HB4 := J (HB.u.trans (hbl.mono HB.u.size))
  have r1 := hrd.here (i := 1) rfl
  have hne : W1.heap.size ≠ w.heap.size := by omega
  have hrl : W1.heap.size < wr.heap.size := hrd.inside
  clear hrd hbl HK hk
  go_upto_region 9 with fail
  refine wp_region_held_drew (S := fun _ => True) (by kernel_rfl) trivial (fun hS => ?_)
  clear hS
  change wpAnyH _ _ _ _ _ 8 #[false, false, false, false, false, false, false, false] _ (World.drew _)
  refine tq 0 (.agg (plnC zeroP (.slice none 0 0))) rfl (fun W hW => ?_) trivial ?_
  ·exact exec_built rfl rfl zero_built
  simp only [Act.put, tkS]
  refine tq 1 (.pointer (some ⟨W1.heap.size, 0, none⟩)) rfl (fun W hW => ?_) trivial ?_
  ·clear hW; go_simp
  simp only [Act.put, tkS]
  refine tq 2 (.pointer (some ⟨W1.heap.size, 0, none⟩)) rfl (fun W hW => ?_) trivial ?_
  ·clear hW; go_simp
  simp only [Act.put, tkS]
  refine tq 3 (.pointer (some ⟨W1.heap.size, 1, none⟩)) rfl (fun W hW => ?_) trivial ?_
  ·clear hW; go_simp
  simp only [Act.put, tkS]
  refine wpAnyH_ready (rs := [4, 5]) (by kernel_rfl) (by simp) (AllReadyH.cons rfl (fun K hK => ?_) (AllReadyH.cons rfl (fun K hK => ?_) AllReadyH.nil))
  ·go_simp
   refine hK.out _ _ trivial (fun hS => ?_)
   clear hS hK K
   refine wpAnyH_ready (rs := [5]) (by kernel_rfl) (by simp) (AllReadyH.cons rfl (fun K hK => ?_) AllReadyH.nil)
   refine step_store_row rfl 101 (.tmp 2) (.tmp 30) rfl w.heap.size (plnC zeroP (.slice none 0 0)) rfl rfl 101 (plnC zeroP (.slice none 0 0)) HZ4.u.drew (by kernel_rfl) rfl (by kernel_rfl) (hK.out _ _ trivial (fun hS => ?_))
   clear hS hK K
   refine tq 6 (.int .i64 (k : Int)) rfl (fun W hW => ?_) trivial ?_
   ·clear hW; go_simp
   simp only [Act.put, tkS]
   refine tq 7 (.int .i64 3) rfl (fun W hW => ?_) trivial ?_
   ·clear hW; go_simp
   simp only [Act.put, tkS]
   refine wpAnyH_done (by kernel_rfl) ?_ _
   go_wp2_with fail
   have hA := row_set2 HZ4.u.drew (plnC zeroP (.slice none 0 0))
   refine bodyPost_ret (v := .tuple #[.agg (plnC zeroP (.slice none 0 0)), .int .i64 (k : Int), .int .i64 3]) (by exact results_cell3 Tryz.results54 _ _ w.heap.size 101 _ (0, 0) _ rfl hA Tryz.underlying101 rfl (by kernel_rfl) _ _ rfl rfl) rfl ?_
   exact HPo.u _ (below_row HB4.u.drew (Nat.le_refl _) _)
  refine step_store_row rfl 101 (.tmp 2) (.tmp 30) rfl w.heap.size (plnC zeroP (.slice none 0 0)) rfl rfl 101 (plnC zeroP (.slice none 0 0)) HZ4.u.drew (by kernel_rfl) rfl (by kernel_rfl) (hK.out _ _ trivial (fun hS => ?_))
  clear hS hK K
  have r2 : (wr.drew.setRow w.heap.size (plnC zeroP (.slice none 0 0))).cell? ⟨W1.heap.size, 1, none⟩ = some (.int .i64 (k : Int)) := (chg_cell (chg_row wr.drew w.heap.size (plnC zeroP (.slice none 0 0))) hrl hne 1).trans r1
  refine wpAnyH_ready (rs := [4]) (by kernel_rfl) (by simp) (AllReadyH.cons rfl (fun K hK => ?_) AllReadyH.nil)
  go_simp
  refine hK.out _ _ trivial (fun hS => ?_)
  clear hS hK K
  refine tq 6 (.int .i64 (k : Int)) rfl (fun W hW => ?_) trivial ?_
  ·clear hW; go_simp
  simp only [Act.put, tkS]
  refine tq 7 (.int .i64 3) rfl (fun W hW => ?_) trivial ?_
  ·clear hW; go_simp
  simp only [Act.put, tkS]
  refine wpAnyH_done (by kernel_rfl) ?_ _
  go_wp2_with fail
  have hA := row_set2 HZ4.u.drew (plnC zeroP (.slice none 0 0))
  refine bodyPost_ret (v := .tuple #[.agg (plnC zeroP (.slice none 0 0)), .int .i64 (k : Int), .int .i64 3]) (by exact results_cell3 Tryz.results54 _ _ w.heap.size 101 _ (0, 0) _ rfl hA Tryz.underlying101 rfl (by kernel_rfl) _ _ rfl rfl) rfl ?_
  exact HPo.u _ (below_row HB4.u.drew (Nat.le_refl _) _)
 obtain ⟨i, p, rest, v, hT, h4, hrk⟩ := HK.u.1 rfl
 have c0 := hT.rd.here (i := 0) rfl
 have HT := J hT
 by_cases h0 : rest.size = 0
 ·have e0 : (rest.toList == []) = true := by
   have : rest = ⟨#[]⟩ := G.ba_ext (List.length_eq_zero_iff.1 (by rw [← G.ba_size]; exact h0))
   rw [this, ByteArray.toList_eq]; rfl
  have HR := J (HYes.u 0 p (hT.reads.whole h4 h0))
  obtain ⟨A, capA, rfl, _, _, _⟩ := hT.own.slice
  have HLi := J (hT.own.list Trg.enc_length)
  have HPl := J hT.plan
  have HOw := J hT.own
  have HZ4 := J (HZ.u.below hT.below hzz)
  have HB4 := J (HB.u.trans (hT.below.mono HB.u.size))
  have HC := J (planCheckV p A capA wr HLi.u hT.fits (by have := HNm.u p 0 (hT.reads.whole h4 h0); omega) (by have := hT.many; have := hT.size; omega))
  clear hT h0 HK hrk h4 HZ HB
  as_aux_lemma =>
  go_wp2_with (refine wpList_load_row rfl 101 (.tmp 6) rfl (W1.heap.size + 1) rfl 101 _ (0, 0) _ HPl.u Tryz.underlying101 rfl (by kernel_rfl) ?_)
  refine HC.u.mono ?_
  rintro e W5 ⟨rfl, hb5⟩
  have HZ5 := J (HZ4.u.below hb5 HZ4.u.inside)
  have HB5 := J (HB4.u.trans (hb5.mono HB4.u.size))
  have HPl5 := J (HPl.u.below hb5 HPl.u.inside)
  have HOw5 := J (HOw.u.below hb5 (Nat.le_refl _))
  clear hb5 HZ4 HB4 HPl HLi HC c0 HOw
  by_cases hE : planE p = 0
  ·have HF := J (show readR s = (p, 0, 0) by rw [HR.u, if_pos hE])
   rw [hE]
   clear hE
   go_wp2_with (first | refine wpList_load_row rfl 101 (.tmp 6) rfl (W1.heap.size + 1) rfl 101 _ (0, 0) _ HPl5.u Tryz.underlying101 rfl (by kernel_rfl) ?_ | refine wpList_store_row rfl 101 (.tmp 2) (.tmp 41) rfl w.heap.size (plnC p (.slice A p.trigs.length capA)) rfl rfl 101 (plnC zeroP (.slice none 0 0)) HZ5.u (by kernel_rfl) rfl (by kernel_rfl) ?_)
   have hA := row_set2 HZ5.u (plnC p (.slice A p.trigs.length capA))
   refine bodyPost_ret (v := .tuple #[.agg (plnC p (.slice A p.trigs.length capA)), .int .i64 0, .int .i64 0]) (by exact results_cell3 Tryz.results54 _ _ w.heap.size 101 _ (0, 0) _ rfl hA Tryz.underlying101 rfl (by kernel_rfl) _ _ rfl rfl) rfl ?_
   refine ⟨.slice A p.trigs.length capA, by rw [HF.u]; rfl, ?_, below_row HB5.u (Nat.le_refl _) _⟩
   rw [HF.u]
   exact (HOw5.u.chg (chg_row W5 w.heap.size (plnC p (.slice A p.trigs.length capA))) (fun b hb e => by have e2 : b = w.heap.size := e; have := hb.1; omega)).list Trg.enc_length
  have HF := J (show readR s = (zeroP, 0, planE p) by rw [HR.u, if_neg hE])
  have hE2 : (planE p != 0) = true := by simpa using hE
  clear hE
  generalize planE p = E at HF hE2 ⊢
  go_wp2_with (first | refine build_law rfl 101 _ rfl [] rfl _ zero_built ?_ | refine wpList_store_row rfl 101 (.tmp 2) (.tmp 39) rfl w.heap.size (plnC zeroP (.slice none 0 0)) rfl rfl 101 (plnC zeroP (.slice none 0 0)) HZ5.u (by kernel_rfl) rfl (by kernel_rfl) ?_)
  have hA := row_set2 HZ5.u (plnC zeroP (.slice none 0 0))
  refine bodyPost_ret (v := .tuple #[.agg (plnC zeroP (.slice none 0 0)), .int .i64 0, .int .i64 E]) (by exact results_cell3 Tryz.results54 _ _ w.heap.size 101 _ (0, 0) _ rfl hA Tryz.underlying101 rfl (by kernel_rfl) _ _ rfl rfl) rfl ?_
  exact post_zero HF.u (below_row HB5.u (Nat.le_refl _) _)
 have e0 : (rest.toList == []) = false := by
  have h9 := same_words rest ⟨#[]⟩
  rw [decide_eq_false (fun e => h0 (by rw [e]; rfl)), show (⟨#[]⟩ : ByteArray).toList = [] from (ByteArray.toList_eq _).trans rfl] at h9
  exact h9
 have HTr := J (readerTrigger W1 wr R m W1.heap.size (W1.heap.size + 1) v i p rest hT h4 (by omega))
 have HRk := J hrk
 have H4 := J h4
 clear hT h0 HK hrk h4
 go_wp2_with fail
 refine HTr.u.mono ?_
 rintro e W5 ⟨b5, rfl, ht5, hf5⟩
 have HN := J (show PrsAt W1 W5 R m W1.heap.size (W1.heap.size + 1) rest.size b5 from by
  refine ⟨fun h => ?_, hf5⟩
  obtain ⟨p', rest', v', hT', hlt'⟩ := ht5 h
  exact ⟨i + 1, p', rest', v', hT', by have := H4.u; omega, hlt'⟩)
 clear ht5 hf5 HTr
 go_wp2_with fail
 go_roundg rest.size
 case measure => have := HRk.u; omega
 case rel => exact ⟨b5, rfl, HN⟩
end Go.Proofs.YtoidcbpcnikejaaGreatDoor
