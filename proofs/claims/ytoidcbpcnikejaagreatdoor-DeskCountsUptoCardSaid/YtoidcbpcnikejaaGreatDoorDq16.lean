/- Parts of this claim: PrdH, BldW. -/
import Derived.Test.YtoidcbpcnikejaaGreatDoorDq15
set_option linter.unusedVariables false
set_option linter.unusedSimpArgs false
set_option maxRecDepth 100000
set_option maxHeartbeats 12800000
namespace Go.Proofs.YtoidcbpcnikejaaGreatDoor
open Go.RowKit
theorem piece_drop (ws : List ByteArray) (k i : Nat) : G.pieceAt (ws.drop k) i = G.pieceAt ws (k + i) := by
 unfold G.pieceAt
 rw [List.getD_eq_getElem?_getD, List.getD_eq_getElem?_getD, List.getElem?_drop]
theorem head_row0 {p : Pln} {ws : List ByteArray} {v : Value} (h : headOk ws = true) : ∃ p', lineN 0 p ws = some p' ∧ p'.trigs = p.trigs ∧ (setK (plnC p v) [1, 2, 3, 4] (ws.drop 2) 4).setIfInBounds 0 (.string (G.pieceAt ws 1)) = plnC p' v := by
 refine ⟨_, if_pos h, rfl, ?_⟩
 simp only [setK, piece_drop]
 rfl
theorem head_row1 {p : Pln} {ws : List ByteArray} {v : Value} (h : rowOk wdRest ws = true) : ∃ p', lineN 1 p ws = some p' ∧ p'.trigs = p.trigs ∧ setK (plnC p v) [5, 6, 7, 8] (ws.drop 1) 4 = plnC p' v := by
 refine ⟨_, if_pos h, rfl, ?_⟩
 simp only [setK, piece_drop]
 rfl
theorem head_row2 {p : Pln} {ws : List ByteArray} {v : Value} (h : rowOk wdUp ws = true) : ∃ p', lineN 2 p ws = some p' ∧ p'.trigs = p.trigs ∧ setK (plnC p v) [9, 10, 11, 12] (ws.drop 1) 4 = plnC p' v := by
 refine ⟨_, if_pos h, rfl, ?_⟩
 simp only [setK, piece_drop]
 rfl
theorem head_row3 {p : Pln} {ws : List ByteArray} {v : Value} (h : rowOk wdDown ws = true) : ∃ p', lineN 3 p ws = some p' ∧ p'.trigs = p.trigs ∧ setK (plnC p v) [13, 14, 15, 16] (ws.drop 1) 4 = plnC p' v := by
 refine ⟨_, if_pos h, rfl, ?_⟩
 simp only [setK, piece_drop]
 rfl
def rowAt : Nat → ByteArray × List Nat
 | 1 => (wdRest, [5, 6, 7, 8])
 | 2 => (wdUp, [9, 10, 11, 12])
 | _ => (wdDown, [13, 14, 15, 16])
theorem row_good {i : Nat} (h0 : 1 ≤ i) (h1 : i ≤ 3) {p : Pln} {ws : List ByteArray} {v : Value} (h : rowOk (rowAt i).1 ws = true) : ∃ p', lineN i p ws = some p' ∧ p'.trigs = p.trigs ∧ setK (plnC p v) (rowAt i).2 (ws.drop 1) 4 = plnC p' v := by
 rcases (show i = 1 ∨ i = 2 ∨ i = 3 by omega) with rfl | rfl | rfl
 ·exact head_row1 h
 ·exact head_row2 h
 exact head_row3 h
theorem row_ill {i : Nat} (h0 : 1 ≤ i) (h1 : i ≤ 3) {p : Pln} {ws : List ByteArray} (h : rowOk (rowAt i).1 ws = false) : lineN i p ws = none := by
 rcases (show i = 1 ∨ i = 2 ∨ i = 3 by omega) with rfl | rfl | rfl
 ·exact if_neg (by show ¬ rowOk wdRest ws = true; rw [show rowOk wdRest ws = false from h]; simp)
 ·exact if_neg (by show ¬ rowOk wdUp ws = true; rw [show rowOk wdUp ws = false from h]; simp)
 exact if_neg (by show ¬ rowOk wdDown ws = true; rw [show rowOk wdDown ws = false from h]; simp)
theorem row_cells {i : Nat} (h0 : 1 ≤ i) (h1 : i ≤ 3) : (rowAt i).2.length = 4 ∧ ∀ o ∈ (rowAt i).2, o < 18 := by
 rcases (show i = 1 ∨ i = 2 ∨ i = 3 by omega) with rfl | rfl | rfl
 ·exact ⟨rfl, by decide⟩
 ·exact ⟨rfl, by decide⟩
 exact ⟨rfl, by decide⟩
structure HdS (w0 W : World) (R : Option Pln × Nat) (m : Int) (g gp : Nat) (v : Value) (i : Nat) (p : Pln) (rest : ByteArray) : Prop where
 reads : Reads i p rest R
 plan : G.At W gp 101 (plnC p v)
 rd : G.At W g 146 #[.string rest, .int .i64 (i : Int)]
 mx : W.cell? ⟨0, 0, none⟩ = some (.int .i64 m)
 chg : G.Chg (fun b => b = g ∨ b = gp) w0 W
 trigs : p.trigs = []
 size : rest.size ≤ 1000000
 few : i ≤ 1000
 ne : gp ≠ g ∧ 0 ≠ g ∧ 0 ≠ gp
 sz : rest.size ≤ 2048
def BadS (w0 W : World) (R : Option Pln × Nat) (g gp : Nat) : Prop := ∃ (k : Nat) (rest : ByteArray), R = (none, k) ∧ G.At W g 146 #[.string rest, .int .i64 (k : Int)] ∧ G.Chg (fun b => b = g ∨ b = gp) w0 W
section
variable {w0 W W' : World} {R : Option Pln × Nat} {m : Int} {g gp i : Nat} {v : Value} {p : Pln} {rest : ByteArray}
theorem HdS.below (h : HdS w0 W R m g gp v i p rest) (hb : Below W.heap.size W W') : HdS w0 W' R m g gp v i p rest :=
 ⟨h.reads, h.plan.below hb h.plan.inside, h.rd.below hb h.rd.inside, (hb.cell (p := ⟨0, 0, none⟩) (World.block_lt_of_cell? _ _ h.mx)).trans h.mx, h.chg.step_below hb h.chg.size, h.trigs, h.size, h.few, h.ne, h.sz⟩
theorem HdS.alloc (h : HdS w0 W R m g gp v i p rest) (o : Obj) : HdS w0 (W.alloc o) R m g gp v i p rest := h.below ((Below.refl _ _).alloc (Nat.le_refl _) o)
theorem HdS.drew (h : HdS w0 W R m g gp v i p rest) : HdS w0 W.drew R m g gp v i p rest := h.below (Below.refl _ _).drew
end
def StepPost (w0 : World) (R : Option Pln × Nat) (m : Int) (g gp : Nat) (v : Value) (i : Nat) (e : Ending) (W' : World) : Prop :=
 ∃ b, e = .returned (.bool b) ∧ (b = true → ∃ p rest, HdS w0 W' R m g gp v (i + 1) p rest) ∧ (b = false → BadS w0 W' R g gp)
theorem headRow (w0 W : World) (R : Option Pln × Nat) (m : Int) (g gp : Nat) (v : Value) (i : Nat) (p : Pln) (rest : ByteArray) (bt : Nat) (capt : Nat) (h0 : 1 ≤ i) (h1 : i ≤ 3) (h : HdS w0 W R m g gp v i p rest) (hp : G.At W bt 208 (ptrs gp (rowAt i).2)) (n2 : bt ≠ g) (n3 : bt ≠ gp) :
  Calls Tryz.prog 117 #[.pointer (some ⟨g, 0, none⟩), .string (rowAt i).1, .slice (some ⟨bt, 0, none⟩) 4 capt] W (StepPost w0 R m g gp v i) := by
 obtain ⟨hl, ho⟩ := row_cells h0 h1
 refine (readerRow (rowAt i).1 g rest (i : Int) m gp bt capt 101 (plnC p v) (rowAt i).2 W h.rd h.size (by omega) (by omega) h.mx h.ne.2.1 hp h.plan hl (fun o q => ho o q) h.ne.1 n2 n3).mono ?_
 rintro e W' ⟨he, hr, ⟨k, hk, hpl, hk4⟩, hc⟩
 refine ⟨_, he, fun hb => ?_, fun hb => ?_⟩
 ·rw [Bool.and_eq_true] at hb
  obtain ⟨p', e1, e2, e3⟩ := row_good (p := p) (v := v) h0 h1 hb.2
  have hk' := hk4 (by rw [hb.1, hb.2]; rfl)
  subst hk'
  rw [e3] at hpl
  refine ⟨p', _, h.reads.next (.inl (by omega)) hb.1 e1, hpl, hr, ?_, h.chg.trans hc, e2.trans h.trigs, Nat.le_trans (G.cutY_size 10 rest) h.size, by omega, h.ne, Nat.le_trans (G.cutY_size 10 rest) h.sz⟩
  exact (chg_cell hc (World.block_lt_of_cell? _ _ h.mx) (fun hb => hb.elim h.ne.2.1 h.ne.2.2) 0).trans h.mx
 refine ⟨i + 1, _, ?_, hr, h.chg.trans hc⟩
 cases hz : G.cutZ 10 rest
 ·exact h.reads.cut (.inl (by omega)) hz
 rw [hz, Bool.true_and] at hb
 exact h.reads.bad (.inl (by omega)) hz (row_ill h0 h1 hb)
open Go.RowKit
theorem append_text {P : Program} (w : World) (t u ty e : TypeId) (i : TypeInfo) (ht : P.underlying t = some (.slice e)) (hu : P.underlying u = some .string) (hi : P.info? e = some i) (hz : i.zero = some (.int .u8 0)) (hsize : i.size = 1) (hby : i.bytes = 1) (v : Value) (n : Nat) (xs : List Value) (hown : w.ownsRow 0 e 1 v n xs) (s : ByteArray) (hbytes : n + s.size ≤ 1000000000000) :
  ∃ v' w', (Builtin.append_ #[t, u] ty #[v, .string s]).run P w = .ok v' w' ∧ w'.ownsRow 0 e 1 v' (n + s.size) (xs ++ Lib.strCells s) ∧ w.grownBy w' v.ownBlock ∧ ∀ g, v'.ownBlock = some g → v.ownBlock = some g ∨ g = w.heap.size := by
 obtain ⟨v', w', h1, h2, h3, h4⟩ := Lib.run_append_own_string (P := P) w 0 t u ty e i ht hu hi hz hsize hby v n xs hown s (by simp only [maxLen]; omega) (by omega) (Nat.zero_le _)
 refine ⟨v', w', h1, h2, h3, fun g hg => ?_⟩
 have hxl : xs.length = n := by simpa using hown.1
 rcases hown.2 with ⟨rfl, rfl⟩ | ⟨b, cap, cur, rfl, hbg, hb, hnc, hcm, hcs, htake⟩
 ·by_cases hm : s.size = 0
  ·rw [h4.2 ⟨rfl, hm⟩] at hg; cases hg
  have hr := run_append_nil_string (P := P) w t u ty e i (.int .u8 0) ht hu hi hz s (by omega) (by omega) (by rw [hby]; omega)
  rw [hr] at h1; cases h1; cases hg; exact .inr rfl
 by_cases hroom : n + s.size ≤ cap
 ·have hr := Lib.run_append_room_string (P := P) w t u ty e i ht hu hi hsize b n cap cur hb s hroom (by omega)
  rw [hr] at h1; cases h1; cases hg; exact .inl rfl
 have holds : ∀ j u, xs[j]? = some u → w.cell? ((⟨b, 0, none⟩ : Addr).add j) = some u := hown.cells (g := b) rfl
 have hr := Lib.run_append_grow_string (P := P) w t u ty e i (.int .u8 0) ht hu hi hz ⟨b, 0, none⟩ n cap xs (by rw [hsize]; simpa using hxl) holds s (by omega) (by omega) (by rw [hby]; exact growslice_fits (by omega) (by omega))
 rw [hr] at h1; cases h1; cases hg; exact .inr rfl
theorem wpList_append_text {P : Program} {ops : Array Oper} {rest : List Oper} {o : Oper} {a : Act} {w : World} {Q : Exit → Act → World → Prop} (hgd : o.guard = none) (sl x : Operand) (t u : TypeId)
  (ho : o.op = .call { callee := .builtin .append, args := #[sl, x], argTypes := #[t, u] }) (e : TypeId) (i : TypeInfo) (ht : P.underlying t = some (.slice e)) (hu : P.underlying u = some .string) (hi : P.info? e = some i) (hz : i.zero = some (.int .u8 0)) (hsize : i.size = 1) (hby : i.bytes = 1)
  (v : Value) (n : Nat) (xs : List Value) (hs : a.eval sl = v) (hown : w.ownsRow 0 e 1 v n xs) (s : ByteArray) (hx : a.eval x = .string s) (hbytes : n + s.size ≤ 1000000000000)
  (h : ∀ v' w', w'.ownsRow 0 e 1 v' (n + s.size) (xs ++ Lib.strCells s) → w.grownBy w' v.ownBlock → (∀ g, v'.ownBlock = some g → v.ownBlock = some g ∨ g = w.heap.size) → wpList P ops Q rest (a.put o.dst v') w') : wpList P ops Q (o :: rest) a w := by
 refine wpList_plain hgd fun K hK => ?_
 obtain ⟨v', w', hr, h2, h3, h4⟩ := append_text (P := P) w t u o.type e i ht hu hi hz hsize hby v n xs hown s hbytes
 unfold Oper.wp execOp
 simp only [ho, resolve, invoke, builtin, Sem.run_bind, Sem.run_pure, Result.andThen_ok, List.map_toArray, List.map_cons, List.map_nil, hs, hx, hr]
 exact hK _ _ (h v' w' h2 h3 h4)
structure BdS (N : Nat) (w : World) (b : Nat) (v : Value) (txt : ByteArray) : Prop where
 at_ : G.At w b 36 #[.pointer none, v] ∨ G.At w b 36 #[.pointer (some ⟨b, 0, none⟩), v]
 row : G.OwnRow (fun k => N ≤ k) w 5 1 v txt.size (Lib.strCells txt)
 ge : N ≤ b
theorem BdS.inside {N : Nat} {w : World} {b : Nat} {v : Value} {txt : ByteArray} (h : BdS N w b v txt) : b < w.heap.size := by
 rcases h.at_ with h | h
 ·exact h.inside
 exact h.inside
theorem BdS.apart {N : Nat} {w : World} {b : Nat} {v : Value} {txt : ByteArray} (h : BdS N w b v txt) : ∀ g, v.ownBlock = some g → g ≠ b := by
 rcases h.at_ with h1 | h1
 ·exact h.row.apartAt h1 (by decide)
 exact h.row.apartAt h1 (by decide)
theorem BdS.chg {C : Nat → Prop} {N : Nat} {w w' : World} {b : Nat} {v : Value} {txt : ByteArray} (h : BdS N w b v txt) (hc : G.Chg C w w') (hb : ¬ C b) (hv : ∀ g, v.ownBlock = some g → ¬ C g) : BdS N w' b v txt := by
 have hr := G.OwnRow.of_owns (S := fun k => N ≤ k ∧ v.ownBlock = some k) h.row.owns (fun g hg => ⟨(h.row.block g hg).1, hg⟩)
 refine ⟨?_, (hr.chg hc fun g hg => hv g hg.2).mono fun _ _ hg => hg.1, h.ge⟩
 rcases h.at_ with h1 | h1
 ·exact .inl (h1.chg hc hb)
 exact .inr (h1.chg hc hb)
theorem bd_new (w : World) {N : Nat} (h : N ≤ w.heap.size) : BdS N (w.alloc (.cells #[.pointer none, .slice none 0 0] 36)) w.heap.size (.slice none 0 0) ⟨#[]⟩ :=
 ⟨.inl (G.At.made _ _ _), G.OwnRow.nil _ _ _ _, h⟩
def BdPost (N : Nat) (w : World) (b : Nat) (v : Value) (txt s : ByteArray) (e : Ending) (w' : World) : Prop :=
 e = .returned (.tuple #[.int .i64 s.size, .nilIface]) ∧ ∃ v', BdS N w' b v' (txt ++ s) ∧ G.Chg (fun k => k = b ∨ v.ownBlock = some k) w w' ∧ ∀ g, v'.ownBlock = some g → v.ownBlock = some g ∨ w.heap.size ≤ g
theorem strCells_app (a b : ByteArray) : Lib.strCells (a ++ b) = Lib.strCells a ++ Lib.strCells b := by unfold Lib.strCells; simp
theorem builderCheck {N : Nat} {w : World} {b : Nat} {v : Value} {txt : ByteArray} (h : BdS N w b v txt) : Calls Tryz.prog 23 #[.pointer (some ⟨b, 0, none⟩)] w fun e w' => e = .returned (.tuple #[]) ∧ G.At w' b 36 #[.pointer (some ⟨b, 0, none⟩), v] ∧ G.OwnRow (fun k => N ≤ k) w' 5 1 v txt.size (Lib.strCells txt) ∧ G.Chg (fun k => k = b) w w' ∧ w'.heap.size = w.heap.size := by
 rcases h.at_ with h1 | h1
 ·refine (Any.Builder_copyCheck_fresh { Tryz.lays156 with } Tryz.Builder_Extra_156.toX72 b w (h1.here (i := 0) rfl) (by show w.shape? b = some (36, 2); unfold World.shape?; rw [show w.heap[b]? = _ from h1]; rfl) (h1.soft 0)).mono ?_
  rintro e w' ⟨rfl, rfl⟩
  exact ⟨rfl, h1.put 0 _, h.row.aside (p := ⟨b, 0, none⟩) (fun g hg => h.apart g hg) _, (G.Chg.refl (fun k => k = b) w).put (p := ⟨b, 0, none⟩) (.inl rfl) _, G.size_put _ _ _⟩
 refine (Any.Builder_copyCheck_used { Tryz.lays156 with } Tryz.Builder_Extra_156.toX72 b w (h1.here (i := 0) rfl)).mono ?_
 rintro e w' ⟨rfl, rfl⟩
 exact ⟨rfl, h1, h.row, G.Chg.refl _ _, rfl⟩
theorem writeString {N : Nat} {w : World} {b : Nat} {v : Value} {txt : ByteArray} (s : ByteArray) (h : BdS N w b v txt) (hN : N ≤ w.heap.size) (hl : txt.size + s.size ≤ 1000000000000) :
  Calls Tryz.prog 13 #[.pointer (some ⟨b, 0, none⟩), .string s] w (BdPost N w b v txt s) := by
 obtain ⟨i0, hi, hz0, hz1, hz2⟩ := info_parts Tryz.Builder_Extra_156.infoByte
 have HH := J h; have HL := J hl; have HN := J hN
 clear h hN
 go_enter Tryz.func13, Tryz.ntmps13
 go_wp2_with fail
 refine (builderCheck HH.u).mono ?_
 rintro e w1 ⟨rfl, h1, h2, h3, h4⟩
 have HA := J h1; have HR := J h2; have HC := J h3; have HZ := J h4
 have c1 := h1.here (i := 1) rfl
 clear h1 h2 h3 h4
 go_wp2_with (at_builtin; refine wpList_append_text rfl _ _ 34 9 rfl 5 i0 Tryz.underlying34 Tryz.underlying9 hi hz0 hz1 hz2 _ _ _ rfl HR.u.owns s rfl HL.u ?_)
 intro v2 w2 hown hg hloc
 have hap : ∀ g, v.ownBlock = some g → g ≠ b := HR.u.apartAt HA.u (by decide)
 have hb2 : G.At w2 b 36 #[.pointer (some ⟨b, 0, none⟩), v] := HA.u.grown hg fun e => hap b e rfl
 have hr2 : G.OwnRow (fun k => N ≤ k) w2 5 1 v2 (txt.size + s.size) (Lib.strCells txt ++ Lib.strCells s) := G.OwnRow.of_owns hown fun g hg2 => by
  rcases hloc g hg2 with e | e
  ·exact (HR.u.block g e).1
  have := HZ.u; have := HN.u; rw [e]; omega
 have d0 := hb2.here (i := 0) rfl
 have d1 := hb2.here (i := 1) rfl
 have f1 := hb2.soft 1
 have HB2 := J hb2; have HR2 := J hr2
 have HC2 := J ((HC.u.mono (S' := fun k => k = b ∨ v.ownBlock = some k) fun _ _ h => .inl h).grown hg fun g e => .inl (.inr e))
 have HL2 := J (show ∀ g, v2.ownBlock = some g → v.ownBlock = some g ∨ w.heap.size ≤ g from fun g hg2 => (hloc g hg2).imp id (fun e => by have := HZ.u; omega))
 have HP := J (hr2.apartAt hb2 (by decide))
 obtain ⟨ao, n2, cap2, rfl⟩ : ∃ ao n2 cap2, v2 = .slice ao n2 cap2 := by
  obtain ⟨A, cap, e, _⟩ := hr2.slice
  exact ⟨_, _, _, e⟩
 clear hb2 hr2 hown hg hloc hap c1
 go_wp2_with fail
 go_ret2
 refine ⟨rfl, _, ⟨.inr (HB2.u.put 1 _), ?_, HH.u.ge⟩, HC2.u.put (p := ⟨b, 1, none⟩) (.inl (.inl rfl)) _, HL2.u⟩
 rw [strCells_app, ByteArray.size_append]
 exact HR2.u.aside (p := ⟨b, 1, none⟩) (fun g hg => HP.u g hg) _
theorem builderText {N : Nat} {w : World} {b : Nat} {v : Value} {txt : ByteArray} (h : BdS N w b v txt) (hN : N ≤ w.heap.size) : Calls Tryz.prog 15 #[.pointer (some ⟨b, 0, none⟩)] w fun e w' => e = .returned (.string txt) ∧ Below N w w' := by
 have hx : (⟨txt.data.toList.toArray⟩ : ByteArray) = txt := by apply ByteArray.ext; simp
 have hown : w.ownsRow N 5 1 v (Lib.byteCells txt.data.toList).length (Lib.byteCells txt.data.toList) := by
  have h0 := h.row.owns
  have hlen : (Lib.byteCells txt.data.toList).length = txt.size := by rw [← Lib.strCells_eq, Lib.strCells_length]
  rw [hlen, ← Lib.strCells_eq]
  exact ⟨h0.1, h0.2.imp id fun ⟨g, cap, cur, e, _, r⟩ => ⟨g, cap, cur, e, (h.row.block g (by rw [e]; rfl)).1, r⟩⟩
 have hI : Lib.IsBuilder 36 5 N b (Lib.byteCells txt.data.toList) w := by
  have hne : v.ownBlock ≠ some b := fun e => h.apart b e rfl
  rcases h.at_ with h1 | h1
  ·exact .inl ⟨h.ge, v, h1, hown, hne⟩
  exact .inr ⟨h.ge, v, h1, hown, hne⟩
 refine (Tryz.Builder_String_any N b _ w hI hN).mono ?_
 rintro e w' ⟨he, hb⟩
 rw [hx] at he
 exact ⟨he, hb⟩
end Go.Proofs.YtoidcbpcnikejaaGreatDoor
