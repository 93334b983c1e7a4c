/- Parts of this claim: GloG, WatD, LopK, WldB. -/
import Derived.Great.BuildSlice
import Derived.Test.YtidonhndeohdlaaGreatWl33
set_option linter.unusedVariables false
set_option linter.unusedSimpArgs false
set_option maxRecDepth 100000
set_option maxHeartbeats 12800000
namespace Go.Proofs.YtidonhndeohdlaaGreat
open Go.RowKit
def cntB : List Bool → Nat
 | [] => 0
 | b :: l => (bif b then 0 else 1) + cntB l
theorem cntB_set : ∀ (l : List Bool) (i : Nat), l.getD i true = false → cntB (l.set i true) + 1 = cntB l
 | [], i, h => by simp at h
 | b :: l, 0, h => by
  have : b = false := h
  subst this; simp only [List.set_cons_zero, cntB, cond_true, cond_false]; omega
 | b :: l, i + 1, h => by
  have := cntB_set l i (by simpa using h)
  simp only [List.set_cons_succ, cntB]; omega
def acycB (ops : Array Oper) : Bool := (List.range ops.size).all fun i => match ops[i]? with
 | some o => o.after.all fun e => decide (e.on < i)
 | none => true
section
variable {P : Program} {ops : Array Oper} {Q : Exit → Act → World → Prop} {md : Region.Mode} {S : World → Prop}
theorem ready_all {L : Array Bool} (ha : acycB ops = true) (hz : L.size = ops.size) (h : Region.ready md ops L = []) : ∀ i, i < ops.size → L.getD i true = true := by
 intro i
 induction i using Nat.strongRecOn with
 | _ i ih =>
  intro hi
  cases hl : L.getD i true
  ·exfalso
   have : i ∈ Region.ready md ops L := by
    refine mem_ready.2 ⟨hl, ops[i], Array.getElem?_eq_getElem hi, fun e he _ => ?_⟩
    have h1 := List.all_eq_true.1 ha i (List.mem_range.2 hi)
    rw [Array.getElem?_eq_getElem hi] at h1
    simp only at h1
    rw [Array.all_eq_true_iff_forall_mem] at h1
    have h2 : e.on < i := of_decide_eq_true (h1 e he)
    have h3 := ih e.on h2 (by omega)
    have h4 : e.on < L.size := by omega
    simpa [h4] using h3
   rw [h] at this; cases this
  rfl
theorem wpAnyH_mix {I : Array Bool → Act → World → Prop} {stop : Array Bool → Prop} (hS : ∀ L a w, I L a w → S w) (hn : ∀ L a w, I L a w → cntB L.toList ≠ 0 ∧ Region.ready md ops L ≠ [])
  (hstop : ∀ n L a w, I L a w → stop L → cntB L.toList = n → wpAnyH P md ops Q S n L a w)
  (hstep : ∀ L a w, I L a w → ¬ stop L → ∀ i ∈ Region.ready md ops L, wpOp P ops Q i (fun a' w' => I (L.setIfInBounds i true) a' w') a w) :
  ∀ n L a w, I L a w → cntB L.toList = n → wpAnyH P md ops Q S n L a w := by
 intro n
 induction n with
 | zero => intro L a w h hc; exact absurd hc (hn L a w h).1
 | succ n ih =>
  intro L a w h hc
  by_cases hs : stop L
  ·exact hstop _ L a w h hs hc
  refine ⟨fun h0 => absurd h0 (hn L a w h).2, fun i hi => wpOp_mono (fun a' w' h' => ⟨hS _ _ _ h', ih _ _ _ h' ?_⟩) (hstep L a w h hs i hi)⟩
  have h1 := (mem_ready.1 hi).1
  have h2 := cntB_set L.toList i (by simpa using h1)
  rw [Array.toList_setIfInBounds]; omega
end
def Mk (c : Nat) (T : TypeId) (cs : Array Value) (cl : Nat → Nat) (W : World) (g : Nat) : Prop := G.At W g T cs ∧ cl g = c
theorem Mk.step {c k g : Nat} {T : TypeId} {cs : Array Value} {cl : Nat → Nat} {W W' : World} (h : Mk c T cs cl W g) (hb : Below W.heap.size W W') : Mk c T cs (paint cl k W W') W' g := ⟨h.1.below hb h.1.inside, (paint_old h.1.inside).trans h.2⟩
theorem Mk.new {c : Nat} {T : TypeId} {cs : Array Value} {cl : Nat → Nat} {W : World} : Mk c T cs (paint cl c W (W.alloc (.cells cs T))) (W.alloc (.cells cs T)) W.heap.size := ⟨G.At.made _ _ _, by unfold paint; rw [if_pos ⟨Nat.le_refl _, by simp⟩]⟩
def zerosI (n : Nat) : Array Value := Array.replicate n (Value.int .i64 0)
def zerosB (n : Nat) : Array Value := Array.replicate n (Value.bool false)
structure GMix (RT : Nat → Prop) (W1 : World) (p : Pln) (vt : Value) (N : Nat) (M : Int) (b1 b3 b5 b6 b7 b9 b14 b16 b20 : Bool) (t10 t12 t14 t15 t16 t18 t23 t25 t29 : Value) (cl : Nat → Nat) (W : World) : Prop where
 lim : ∀ b, cl b ≠ 0 → W1.heap.size ≤ b ∧ b < W.heap.size
 bel : Below W1.heap.size W1 W
 f1 : b1 = true → ∃ (g gs : Nat) (lf : Value) (S1 S2 : Nat → Prop), t10 = .pointer (some ⟨g, 0, none⟩) ∧ WatAt RT S1 S2 W g gs vt lf (.slice none 0 0) (.slice none 0 0) (newLp p) ∧ (∀ b, S1 b → cl b = 1) ∧ ∀ b, S2 b → cl b = 1
 f3 : b3 = true → ∃ g, t12 = .slice (some ⟨g, 0, none⟩) N N ∧ Mk 3 3 (zerosI N) cl W g
 f5 : b5 = true → ∃ g, t14 = .slice (some ⟨g, 0, none⟩) N N ∧ Mk 5 3 (zerosI N) cl W g
 f6 : b6 = true → b3 = true ∧ b5 = true ∧ t15 = .agg #[t12, t14]
 f7 : b7 = true → b6 = true ∧ ∃ g, t16 = .pointer (some ⟨g, 0, none⟩) ∧ Mk 7 70 #[t12, t14] cl W g
 f9 : b9 = true → ∃ g, t18 = .pointer (some ⟨g, 0, none⟩) ∧ Mk 9 74 #[.slice none 0 0, .int .i64 0] cl W g
 f14 : b14 = true → ∃ g, t23 = .pointer (some ⟨g, 0, none⟩) ∧ Mk 14 78 #[.slice none 0 0, .int .i64 0, .int .i64 M] cl W g
 f16 : b16 = true → ∃ g, t25 = .pointer (some ⟨g, 0, none⟩) ∧ Mk 16 82 #[.slice none 0 0] cl W g
 f20 : b20 = true → ∃ g, t29 = .slice (some ⟨g, 0, none⟩) p.trigs.length p.trigs.length ∧ Mk 20 4 (zerosB p.trigs.length) cl W g
section
variable {RT : Nat → Prop} {W1 W W' : World} {p : Pln} {vt : Value} {N : Nat} {M : Int} {b1 b3 b5 b6 b7 b9 b14 b16 b20 : Bool} {t10 t12 t14 t15 t16 t18 t23 t25 t29 : Value} {cl : Nat → Nat}
theorem GMix.keep (h : GMix RT W1 p vt N M b1 b3 b5 b6 b7 b9 b14 b16 b20 t10 t12 t14 t15 t16 t18 t23 t25 t29 cl W) (hb : Below W.heap.size W W') (k : Nat) : GMix RT W1 p vt N M b1 b3 b5 b6 b7 b9 b14 b16 b20 t10 t12 t14 t15 t16 t18 t23 t25 t29 (paint cl k W W') W' where
 lim := fun b hb2 => by
  have hz := hb.size; have hz1 := h.bel.size
  unfold paint at hb2
  by_cases c : W.heap.size ≤ b ∧ b < W'.heap.size
  ·exact ⟨by omega, c.2⟩
  rw [if_neg c] at hb2
  have := h.lim b hb2
  exact ⟨this.1, by omega⟩
 bel := h.bel.trans (hb.mono h.bel.size)
 f1 := fun e => by
  obtain ⟨g, gs, lf, S1, S2, e1, e2, e3, e4⟩ := h.f1 e
  exact ⟨g, gs, lf, S1, S2, e1, e2.below hb, fun b hs => (paint_old (e2.lim b hs)).trans (e3 b hs), fun b hs => (paint_old (e2.st.lim b hs)).trans (e4 b hs)⟩
 f3 := fun e => by obtain ⟨g, e1, e2⟩ := h.f3 e; exact ⟨g, e1, e2.step hb⟩
 f5 := fun e => by obtain ⟨g, e1, e2⟩ := h.f5 e; exact ⟨g, e1, e2.step hb⟩
 f6 := h.f6
 f7 := fun e => by obtain ⟨e0, g, e1, e2⟩ := h.f7 e; exact ⟨e0, g, e1, e2.step hb⟩
 f9 := fun e => by obtain ⟨g, e1, e2⟩ := h.f9 e; exact ⟨g, e1, e2.step hb⟩
 f14 := fun e => by obtain ⟨g, e1, e2⟩ := h.f14 e; exact ⟨g, e1, e2.step hb⟩
 f16 := fun e => by obtain ⟨g, e1, e2⟩ := h.f16 e; exact ⟨g, e1, e2.step hb⟩
 f20 := fun e => by obtain ⟨g, e1, e2⟩ := h.f20 e; exact ⟨g, e1, e2.step hb⟩
theorem GMix.m3 (h : GMix RT W1 p vt N M b1 false b5 b6 b7 b9 b14 b16 b20 t10 t12 t14 t15 t16 t18 t23 t25 t29 cl W) : GMix RT W1 p vt N M b1 true b5 b6 b7 b9 b14 b16 b20 t10 (.slice (some ⟨W.heap.size, 0, none⟩) N N) t14 t15 t16 t18 t23 t25 t29 (paint cl 3 W (W.alloc (.cells (zerosI N) 3))) (W.alloc (.cells (zerosI N) 3)) :=
 { h.keep ((Below.refl _ _).alloc (Nat.le_refl _) _) 3 with
  f3 := fun _ => ⟨W.heap.size, rfl, Mk.new⟩
  f6 := fun e => absurd (h.f6 e).1 (by decide)
  f7 := fun e => absurd (h.f6 (h.f7 e).1).1 (by decide) }
theorem GMix.m5 (h : GMix RT W1 p vt N M b1 b3 false b6 b7 b9 b14 b16 b20 t10 t12 t14 t15 t16 t18 t23 t25 t29 cl W) : GMix RT W1 p vt N M b1 b3 true b6 b7 b9 b14 b16 b20 t10 t12 (.slice (some ⟨W.heap.size, 0, none⟩) N N) t15 t16 t18 t23 t25 t29 (paint cl 5 W (W.alloc (.cells (zerosI N) 3))) (W.alloc (.cells (zerosI N) 3)) :=
 { h.keep ((Below.refl _ _).alloc (Nat.le_refl _) _) 5 with
  f5 := fun _ => ⟨W.heap.size, rfl, Mk.new⟩
  f6 := fun e => absurd (h.f6 e).2.1 (by decide)
  f7 := fun e => absurd (h.f6 (h.f7 e).1).2.1 (by decide) }
theorem GMix.m6 (h : GMix RT W1 p vt N M b1 b3 b5 false b7 b9 b14 b16 b20 t10 t12 t14 t15 t16 t18 t23 t25 t29 cl W) (h3 : b3 = true) (h5 : b5 = true) : GMix RT W1 p vt N M b1 b3 b5 true b7 b9 b14 b16 b20 t10 t12 t14 (.agg #[t12, t14]) t16 t18 t23 t25 t29 cl W :=
 { h with
  f6 := fun _ => ⟨h3, h5, rfl⟩
  f7 := fun e => absurd (h.f7 e).1 (by decide) }
theorem GMix.m7 (h : GMix RT W1 p vt N M b1 b3 b5 b6 false b9 b14 b16 b20 t10 t12 t14 t15 t16 t18 t23 t25 t29 cl W) (h6 : b6 = true) : GMix RT W1 p vt N M b1 b3 b5 b6 true b9 b14 b16 b20 t10 t12 t14 t15 (.pointer (some ⟨W.heap.size, 0, none⟩)) t18 t23 t25 t29 (paint cl 7 W (W.alloc (.cells #[t12, t14] 70))) (W.alloc (.cells #[t12, t14] 70)) :=
 { h.keep ((Below.refl _ _).alloc (Nat.le_refl _) _) 7 with
  f7 := fun _ => ⟨h6, W.heap.size, rfl, Mk.new⟩ }
theorem GMix.m9 (h : GMix RT W1 p vt N M b1 b3 b5 b6 b7 false b14 b16 b20 t10 t12 t14 t15 t16 t18 t23 t25 t29 cl W) : GMix RT W1 p vt N M b1 b3 b5 b6 b7 true b14 b16 b20 t10 t12 t14 t15 t16 (.pointer (some ⟨W.heap.size, 0, none⟩)) t23 t25 t29 (paint cl 9 W (W.alloc (.cells #[.slice none 0 0, .int .i64 0] 74))) (W.alloc (.cells #[.slice none 0 0, .int .i64 0] 74)) :=
 { h.keep ((Below.refl _ _).alloc (Nat.le_refl _) _) 9 with
  f9 := fun _ => ⟨W.heap.size, rfl, Mk.new⟩ }
theorem GMix.m14 (h : GMix RT W1 p vt N M b1 b3 b5 b6 b7 b9 false b16 b20 t10 t12 t14 t15 t16 t18 t23 t25 t29 cl W) : GMix RT W1 p vt N M b1 b3 b5 b6 b7 b9 true b16 b20 t10 t12 t14 t15 t16 t18 (.pointer (some ⟨W.heap.size, 0, none⟩)) t25 t29 (paint cl 14 W (W.alloc (.cells #[.slice none 0 0, .int .i64 0, .int .i64 M] 78))) (W.alloc (.cells #[.slice none 0 0, .int .i64 0, .int .i64 M] 78)) :=
 { h.keep ((Below.refl _ _).alloc (Nat.le_refl _) _) 14 with
  f14 := fun _ => ⟨W.heap.size, rfl, Mk.new⟩ }
theorem GMix.m16 (h : GMix RT W1 p vt N M b1 b3 b5 b6 b7 b9 b14 false b20 t10 t12 t14 t15 t16 t18 t23 t25 t29 cl W) : GMix RT W1 p vt N M b1 b3 b5 b6 b7 b9 b14 true b20 t10 t12 t14 t15 t16 t18 t23 (.pointer (some ⟨W.heap.size, 0, none⟩)) t29 (paint cl 16 W (W.alloc (.cells #[.slice none 0 0] 82))) (W.alloc (.cells #[.slice none 0 0] 82)) :=
 { h.keep ((Below.refl _ _).alloc (Nat.le_refl _) _) 16 with
  f16 := fun _ => ⟨W.heap.size, rfl, Mk.new⟩ }
theorem GMix.m20 (h : GMix RT W1 p vt N M b1 b3 b5 b6 b7 b9 b14 b16 false t10 t12 t14 t15 t16 t18 t23 t25 t29 cl W) : GMix RT W1 p vt N M b1 b3 b5 b6 b7 b9 b14 b16 true t10 t12 t14 t15 t16 t18 t23 t25 (.slice (some ⟨W.heap.size, 0, none⟩) p.trigs.length p.trigs.length) (paint cl 20 W (W.alloc (.cells (zerosB p.trigs.length) 4))) (W.alloc (.cells (zerosB p.trigs.length) 4)) :=
 { h.keep ((Below.refl _ _).alloc (Nat.le_refl _) _) 20 with
  f20 := fun _ => ⟨W.heap.size, rfl, Mk.new⟩ }
theorem GMix.m1 (h : GMix RT W1 p vt N M false b3 b5 b6 b7 b9 b14 b16 b20 t10 t12 t14 t15 t16 t18 t23 t25 t29 cl W) {g gs : Nat} {lf : Value} {S1 S2 : Nat → Prop} (hw : WatAt RT S1 S2 W' g gs vt lf (.slice none 0 0) (.slice none 0 0) (newLp p)) (s1 : ∀ b, S1 b → W.heap.size ≤ b) (s2 : ∀ b, S2 b → W.heap.size ≤ b) (hb : Below W.heap.size W W') : GMix RT W1 p vt N M true b3 b5 b6 b7 b9 b14 b16 b20 (.pointer (some ⟨g, 0, none⟩)) t12 t14 t15 t16 t18 t23 t25 t29 (paint cl 1 W W') W' :=
 { h.keep hb 1 with
  f1 := fun _ => ⟨g, gs, lf, S1, S2, rfl, hw, fun b hs => by unfold paint; rw [if_pos ⟨s1 b hs, hw.lim b hs⟩], fun b hs => by unfold paint; rw [if_pos ⟨s2 b hs, hw.st.lim b hs⟩]⟩ }
end
theorem GMix.start {RT : Nat → Prop} {W1 : World} {p : Pln} {vt : Value} {N : Nat} {M : Int} : GMix RT W1 p vt N M false false false false false false false false false undef undef undef undef undef undef undef undef undef (fun _ => 0) W1 :=
 ⟨fun b h => absurd rfl h, Below.refl _ _, fun h => absurd h (by decide), fun h => absurd h (by decide), fun h => absurd h (by decide), fun h => absurd h (by decide), fun h => absurd h (by decide), fun h => absurd h (by decide), fun h => absurd h (by decide), fun h => absurd h (by decide), fun h => absurd h (by decide)⟩
theorem glo_built (gl gt gq gf gb ga n : Nat) (sec : Int) : Tryz.prog.built 84 [(0, .pointer (some ⟨gl, 0, none⟩)), (1, .pointer (some ⟨gt, 0, none⟩)), (2, .pointer (some ⟨gq, 0, none⟩)), (3, .pointer (some ⟨gf, 0, none⟩)), (4, .pointer (some ⟨gb, 0, none⟩)), (5, .slice (some ⟨ga, 0, none⟩) n n), (6, .int .i64 sec)] = some #[.pointer (some ⟨gl, 0, none⟩), .pointer (some ⟨gt, 0, none⟩), .pointer (some ⟨gq, 0, none⟩), .pointer (some ⟨gf, 0, none⟩), .pointer (some ⟨gb, 0, none⟩), .slice (some ⟨ga, 0, none⟩) n n, .int .i64 sec, .int .i64 0, .int .i64 0, .int .i64 0, .int .i64 0] := by kernel_rfl
theorem mk_make (n : Nat) (h : (n : Int) ≤ 20) : ∀ W : World, (Instr.makeSlice 68 (.int .i64 (n : Int)) (.int .i64 (n : Int))).run Tryz.prog W = .ok (.slice (some ⟨W.heap.size, 0, none⟩) n n) (W.alloc (.cells (zerosI n) 3)) := lop_make n h
theorem bool_info : (Tryz.prog.info? 4).map (fun i => (i.zero, i.size, i.bytes)) = some (some (.bool false), 1, 1) := by kernel_rfl
theorem mk_makeB (m : Nat) (h : (m : Int) ≤ 20) : ∀ W : World, (Instr.makeSlice 53 (.int .i64 (m : Int)) (.int .i64 (m : Int))).run Tryz.prog W = .ok (.slice (some ⟨W.heap.size, 0, none⟩) m m) (W.alloc (.cells (zerosB m) 4)) := fun W => by
 obtain ⟨i0, hi, hz0, hz1, hz2⟩ := info_parts bool_info
 have := run_make (P := Tryz.prog) W 53 4 i0 _ Tryz.underlying53 hi hz0 .i64 .i64 m m (by omega) (by omega) (by rw [hz2]; omega) (by omega)
 rw [Int.toNat_natCast, hz1] at this
 rw [this, Nat.mul_one]
 have e : madeCells #[Value.bool false] m = zerosB m := by
  unfold madeCells zerosB
  apply Array.ext
  ·simp
  intro i h1 h2
  simp [Nat.mod_one]
 show Result.ok _ (W.alloc (.cells (madeCells #[Value.bool false] m) _)) = _
 rw [e]
def NewGloPost (RT : Nat → Prop) (w : World) (p : Pln) (vt : Value) (parts most sec : Int) (e : Ending) (w' : World) : Prop := ∃ q : Wp, e = .returned (.pointer (some ⟨q.g, 0, none⟩)) ∧ GloN RT (fun b => b < w.heap.size) w' q (newWo p parts most sec) ∧ Below w.heap.size w w'
theorem gmix_end {RT : Nat → Prop} {w W1 W : World} {p : Pln} {vt : Value} {N : Nat} {most sec : Int} {t10 t12 t14 t15 t16 t18 t23 t25 t29 : Value} {cl : Nat → Nat} (h : GMix RT W1 p vt N (mostOf most) true true true true true true true true true t10 t12 t14 t15 t16 t18 t23 t25 t29 cl W) (hw : w.heap.size ≤ W1.heap.size) (hb : Below w.heap.size w W1) (hN : 1 ≤ N) (hN2 : N ≤ 20) (hfew : p.trigs.length ≤ 5) (rt : ∀ b, RT b → b < w.heap.size) :
  NewGloPost RT w p vt N most sec (.returned (.pointer (some ⟨W.heap.size, 0, none⟩))) (W.alloc (.cells #[t10, t16, t18, t23, t25, t29, .int .i64 sec, .int .i64 0, .int .i64 0, .int .i64 0, .int .i64 0] 84)) := by
 obtain ⟨gl, gs, lf, S1, S2, rfl, hl, s1, s2⟩ := h.f1 rfl
 obtain ⟨gp, rfl, hp, cp⟩ := h.f3 rfl
 obtain ⟨gr, rfl, hr, cr⟩ := h.f5 rfl
 obtain ⟨_, gt, rfl, ht, ct⟩ := h.f7 rfl
 obtain ⟨gq, rfl, hq, cq⟩ := h.f9 rfl
 obtain ⟨gf, rfl, hf, cf⟩ := h.f14 rfl
 obtain ⟨gb, rfl, hbu, cb⟩ := h.f16 rfl
 obtain ⟨ga, rfl, ha, ca⟩ := h.f20 rfl
 have hbz : Below w.heap.size w W := hb.trans (h.bel.mono hw)
 have ha1 := (Below.refl W.heap.size W).alloc (Nat.le_refl _) (.cells #[.pointer (some ⟨gl, 0, none⟩), .pointer (some ⟨gt, 0, none⟩), .pointer (some ⟨gq, 0, none⟩), .pointer (some ⟨gf, 0, none⟩), .pointer (some ⟨gb, 0, none⟩), .slice (some ⟨ga, 0, none⟩) p.trigs.length p.trigs.length, .int .i64 sec, .int .i64 0, .int .i64 0, .int .i64 0, .int .i64 0] 84)
 have nw : ∀ b, cl b ≠ 0 → w.heap.size ≤ b := fun b hb2 => Nat.le_trans hw (h.lim b hb2).1
 refine ⟨⟨W.heap.size, gl, gt, gq, gf, gb, vt, .slice (some ⟨ga, 0, none⟩) p.trigs.length p.trigs.length⟩, rfl, ?_, hbz.alloc hbz.size _⟩
 refine glo_made (S1 := S1) (S2 := S2) (gp := gp) (gr := gr) (gs := gs) (lf := lf) (Nat.le_trans hbz.size (by simp)) (G.At.made _ _ _) (hl.alloc _) (fun b hs => nw b (by rw [s1 b hs]; decide)) (fun b hs => nw b (by rw [s2 b hs]; decide)) ⟨?_, ?_, ?_, ?_, ?_⟩ (hq.alloc _) (hf.alloc _) (hbu.alloc _) ?_ ?_ rt
 ·have := ht.alloc (.cells #[.pointer (some ⟨gl, 0, none⟩), .pointer (some ⟨gt, 0, none⟩), .pointer (some ⟨gq, 0, none⟩), .pointer (some ⟨gf, 0, none⟩), .pointer (some ⟨gb, 0, none⟩), .slice (some ⟨ga, 0, none⟩) p.trigs.length p.trigs.length, .int .i64 sec, .int .i64 0, .int .i64 0, .int .i64 0, .int .i64 0] 84)
  rw [List.length_replicate]; exact this
 ·have := hp.alloc (.cells #[.pointer (some ⟨gl, 0, none⟩), .pointer (some ⟨gt, 0, none⟩), .pointer (some ⟨gq, 0, none⟩), .pointer (some ⟨gf, 0, none⟩), .pointer (some ⟨gb, 0, none⟩), .slice (some ⟨ga, 0, none⟩) p.trigs.length p.trigs.length, .int .i64 sec, .int .i64 0, .int .i64 0, .int .i64 0, .int .i64 0] 84)
  rw [List.map_replicate, List.toArray_replicate]; exact this
 ·have := hr.alloc (.cells #[.pointer (some ⟨gl, 0, none⟩), .pointer (some ⟨gt, 0, none⟩), .pointer (some ⟨gq, 0, none⟩), .pointer (some ⟨gf, 0, none⟩), .pointer (some ⟨gb, 0, none⟩), .slice (some ⟨ga, 0, none⟩) p.trigs.length p.trigs.length, .int .i64 sec, .int .i64 0, .int .i64 0, .int .i64 0, .int .i64 0] 84)
  rw [List.map_replicate, List.toArray_replicate]; exact this
 ·rw [List.length_replicate]; exact hN2
 ·rintro rfl; rw [cp] at cr; exact absurd cr (by decide)
 ·have hg := ha.alloc (.cells #[.pointer (some ⟨gl, 0, none⟩), .pointer (some ⟨gt, 0, none⟩), .pointer (some ⟨gq, 0, none⟩), .pointer (some ⟨gf, 0, none⟩), .pointer (some ⟨gb, 0, none⟩), .slice (some ⟨ga, 0, none⟩) p.trigs.length p.trigs.length, .int .i64 sec, .int .i64 0, .int .i64 0, .int .i64 0, .int .i64 0] 84)
  refine ⟨by simp, .inr ⟨ga, p.trigs.length, rfl, ⟨nw ga (by rw [ca]; decide), fun hs => ?_, fun hs => ?_⟩, Nat.le_refl _, by simp only [maxLen]; omega, ?_⟩⟩
  ·have := s1 ga hs; rw [ca] at this; exact absurd this (by decide)
  ·have := s2 ga hs; rw [ca] at this; exact absurd this (by decide)
  have := hg.row
  unfold zerosB at this
  simpa using this
 intro b hbs
 have key : ∀ c, cl b = c → c ≠ 0 → c ≠ 1 → w.heap.size ≤ b ∧ ¬ S1 b ∧ ¬ S2 b := fun c hc c0 c1 => ⟨nw b (by omega), fun hs => by have := s1 b hs; omega, fun hs => by have := s2 b hs; omega⟩
 rcases hbs with rfl | rfl | rfl | rfl | rfl | rfl | rfl
 ·exact ⟨hbz.size, fun hs => Nat.lt_irrefl _ (hl.lim _ hs), fun hs => Nat.lt_irrefl _ (hl.st.lim _ hs)⟩
 ·exact key _ ct (by decide) (by decide)
 ·exact key _ cp (by decide) (by decide)
 ·exact key _ cr (by decide) (by decide)
 ·exact key _ cq (by decide) (by decide)
 ·exact key _ cf (by decide) (by decide)
 exact key _ cb (by decide) (by decide)
theorem gloNew (RT : Nat → Prop) (p : Pln) (A : Option Addr) (cap : Nat) (parts most sec : Int) (w : World) (ht : TrgIn RT w (.slice A p.trigs.length cap) p.trigs) (hr : ∀ b, RT b → b < w.heap.size) (hE : planE p = 0) (p0 : 1 ≤ parts) (p1 : parts ≤ 20) :
  Calls Tryz.prog 7 #[plnV p (.slice A p.trigs.length cap), .int .i64 parts, .int .i64 most, .int .i64 sec] w (NewGloPost RT w p (.slice A p.trigs.length cap) parts most sec) := by
 have hfew := (planE_ok hE).few
 have HX := J (G.At.made w 26 (plnC p (.slice A p.trigs.length cap)))
 have HB := J ((Below.refl w.heap.size w).alloc (Nat.le_refl _) (.cells (plnC p (.slice A p.trigs.length cap)) 26))
 obtain ⟨N, rfl⟩ := Int.eq_ofNat_of_zero_le (show 0 ≤ parts by omega)
 have HNew := J (fun (W : World) (hb : Below w.heap.size w W) => watNew RT p A cap W (ht.chg (C := fun _ => False) (G.Chg.of_below hb (Nat.le_refl _)) (fun _ _ h => h)) (fun b h => Nat.lt_of_lt_of_le (hr b h) hb.size) hE)
 have HEnd := J (fun (W1 W : World) (cl : Nat → Nat) (t10 t12 t14 t15 t16 t18 t23 t25 t29 : Value) (h1 : w.heap.size ≤ W1.heap.size) (h2 : Below w.heap.size w W1) (h : GMix RT W1 p (.slice A p.trigs.length cap) N (mostOf most) true true true true true true true true true t10 t12 t14 t15 t16 t18 t23 t25 t29 cl W) => gmix_end (sec := sec) h h1 h2 (by omega) (by omega) hfew hr)
 have Hm1 := J (mk_make N (by omega)); have Hm2 := J (mk_makeB p.trigs.length (by omega))
 have n0 : (0 : Int) ≤ (p.trigs.length : Int) := by omega
 have n1 : (p.trigs.length : Int) ≤ 5 := by omega
 have HMax := J (show (if most < 1 then (1 : Int) else most) = max most 1 by omega)
 have HMin := J (show (if 100 < max most 1 then (100 : Int) else max most 1) = mostOf most by unfold mostOf; omega)
 unfold plnV at HNew ⊢
 unfold plnC at HX HB
 generalize NewGloPost RT w p (.slice A p.trigs.length cap) N most sec = POST at HEnd ⊢
 clear ht hr hE hfew
 go_enter Tryz.func7, Tryz.ntmps7
 go_upto_region 1 with fail
 generalize w.alloc (.cells #[.string p.name, .int .i64 p.mn, .int .i64 p.mx, .int .i64 p.poll, .int .i64 p.cool, .int .i64 p.tol, .int .i64 p.back, .int .i64 p.after, .int .i64 p.shift, .int .i64 p.up.win, .int .i64 p.up.pods, .int .i64 p.up.pct, .int .i64 p.up.per, .int .i64 p.down.win, .int .i64 p.down.pods, .int .i64 p.down.pct, .int .i64 p.down.per, .slice A p.trigs.length cap] 26) = W1 at HX HB ⊢
 have hS : G.At W1.drew w.heap.size 26 #[.string p.name, .int .i64 p.mn, .int .i64 p.mx, .int .i64 p.poll, .int .i64 p.cool, .int .i64 p.tol, .int .i64 p.back, .int .i64 p.after, .int .i64 p.shift, .int .i64 p.up.win, .int .i64 p.up.pods, .int .i64 p.up.pct, .int .i64 p.up.per, .int .i64 p.down.win, .int .i64 p.down.pods, .int .i64 p.down.pct, .int .i64 p.down.per, .slice A p.trigs.length cap] := HX.u.drew
 as_aux_lemma =>
 refine wp_region_held_drew (S := fun W => G.At W w.heap.size 26 #[.string p.name, .int .i64 p.mn, .int .i64 p.mx, .int .i64 p.poll, .int .i64 p.cool, .int .i64 p.tol, .int .i64 p.back, .int .i64 p.after, .int .i64 p.shift, .int .i64 p.up.win, .int .i64 p.up.pods, .int .i64 p.up.pct, .int .i64 p.up.per, .int .i64 p.down.win, .int .i64 p.down.pods, .int .i64 p.down.pct, .int .i64 p.down.per, .slice A p.trigs.length cap]) (by kernel_rfl) hS (fun hh => ?_)
 clear hh
 change wpAnyH _ _ _ _ _ 25 #[false, false, false, false, false, false, false, false, false, false, false, false, false, false, false, false, false, false, false, false, false, false, false, false, false] _ (World.drew _)
 refine tq 0 (.agg #[.string p.name, .int .i64 p.mn, .int .i64 p.mx, .int .i64 p.poll, .int .i64 p.cool, .int .i64 p.tol, .int .i64 p.back, .int .i64 p.after, .int .i64 p.shift, .int .i64 p.up.win, .int .i64 p.up.pods, .int .i64 p.up.pct, .int .i64 p.up.per, .int .i64 p.down.win, .int .i64 p.down.pods, .int .i64 p.down.pct, .int .i64 p.down.per, .slice A p.trigs.length cap]) rfl (fun W hW => ?_) hS ?_
 ·exact exec_load_row rfl rfl hW Tryz.underlying26 rfl (by kernel_rfl)
 simp only [Act.put, tkS]
 refine tq 2 (.int .i64 (N : Int)) rfl (fun W hW => ?_) hS ?_
 ·clear hW; go_simp
 simp only [Act.put, tkS]
 refine tq 4 (.int .i64 (N : Int)) rfl (fun W hW => ?_) hS ?_
 ·clear hW; go_simp
 simp only [Act.put, tkS]
 refine tq 8 (.agg #[.slice none 0 0, .int .i64 0]) rfl (fun W hW => ?_) hS ?_
 ·clear hW; go_simp
 simp only [Act.put, tkS]
 refine tq 10 (.int .i64 most) rfl (fun W hW => ?_) hS ?_
 ·clear hW; go_simp
 simp only [Act.put, tkS]
 refine tq 11 (.int .i64 (max most 1)) rfl (fun W hW => ?_) hS ?_
 ·clear hW; go_simp; exact HMax.u
 simp only [Act.put, tkS]
 refine tq 12 (.int .i64 (mostOf most)) rfl (fun W hW => ?_) hS ?_
 ·clear hW; go_simp; exact HMin.u
 simp only [Act.put, tkS]
 refine tq 13 (.agg #[.slice none 0 0, .int .i64 0, .int .i64 (mostOf most)]) rfl (fun W hW => ?_) hS ?_
 ·clear hW; go_simp
 simp only [Act.put, tkS]
 refine tq 15 (.agg #[.slice none 0 0]) rfl (fun W hW => ?_) hS ?_
 ·clear hW; go_simp
 simp only [Act.put, tkS]
 refine tq 17 (.pointer (some ⟨w.heap.size, 17, none⟩)) rfl (fun W hW => ?_) hS ?_
 ·clear hW; go_simp
 simp only [Act.put, tkS]
 refine tq 18 (.slice A p.trigs.length cap) rfl (fun W hW => ?_) hS ?_
 ·have z17 : W.cell? ⟨w.heap.size, 17, none⟩ = some (.slice A p.trigs.length cap) := hW.here rfl; clear hW; go_simp
 simp only [Act.put, tkS]
 refine tq 19 (.int .i64 (p.trigs.length : Int)) rfl (fun W hW => ?_) hS ?_
 ·clear hW; go_simp
 simp only [Act.put, tkS]
 refine tq 21 (.int .i64 sec) rfl (fun W hW => ?_) hS ?_
 ·clear hW; go_simp
 simp only [Act.put, tkS]
 refine wpAnyH_mix (I := fun L a W => ∃ (b1 b3 b5 b6 b7 b9 b14 b16 b20 : Bool) (t10 t12 t14 t15 t16 t18 t23 t25 t29 : Value) (cl : Nat → Nat), L = #[true, b1, true, b3, true, b5, b6, b7, true, b9, true, true, true, true, b14, true, b16, true, true, true, b20, true, false, false, false] ∧ a = ⟨#[.agg #[.string p.name, .int .i64 p.mn, .int .i64 p.mx, .int .i64 p.poll, .int .i64 p.cool, .int .i64 p.tol, .int .i64 p.back, .int .i64 p.after, .int .i64 p.shift, .int .i64 p.up.win, .int .i64 p.up.pods, .int .i64 p.up.pct, .int .i64 p.up.per, .int .i64 p.down.win, .int .i64 p.down.pods, .int .i64 p.down.pct, .int .i64 p.down.per, .slice A p.trigs.length cap], .int .i64 (N : Int), .int .i64 most, .int .i64 sec, .pointer (some ⟨w.heap.size, 0, none⟩), undef, undef, undef, .pointer none, .agg #[.string p.name, .int .i64 p.mn, .int .i64 p.mx, .int .i64 p.poll, .int .i64 p.cool, .int .i64 p.tol, .int .i64 p.back, .int .i64 p.after, .int .i64 p.shift, .int .i64 p.up.win, .int .i64 p.up.pods, .int .i64 p.up.pct, .int .i64 p.up.per, .int .i64 p.down.win, .int .i64 p.down.pods, .int .i64 p.down.pct, .int .i64 p.down.per, .slice A p.trigs.length cap], t10, .int .i64 (N : Int), t12, .int .i64 (N : Int), t14, t15, t16, .agg #[.slice none 0 0, .int .i64 0], t18, .int .i64 most, .int .i64 (max most 1), .int .i64 (mostOf most), .agg #[.slice none 0 0, .int .i64 0, .int .i64 (mostOf most)], t23, .agg #[.slice none 0 0], t25, .pointer (some ⟨w.heap.size, 17, none⟩), .slice A p.trigs.length cap, .int .i64 (p.trigs.length : Int), t29, .int .i64 sec, undef, undef], []⟩ ∧ GMix RT W1.drew p (.slice A p.trigs.length cap) N (mostOf most) b1 b3 b5 b6 b7 b9 b14 b16 b20 t10 t12 t14 t15 t16 t18 t23 t25 t29 cl W) (stop := fun L => ∀ i ∈ [1, 3, 5, 6, 7, 9, 14, 16, 20], L.getD i false = true) ?_ ?_ ?_ ?_ 12 _ _ _ ⟨false, false, false, false, false, false, false, false, false, undef, undef, undef, undef, undef, undef, undef, undef, undef, fun _ => 0, rfl, rfl, GMix.start⟩ rfl
 ·rintro L a W ⟨b1, b3, b5, b6, b7, b9, b14, b16, b20, t10, t12, t14, t15, t16, t18, t23, t25, t29, cl, rfl, rfl, h⟩
  exact hS.below h.bel hS.inside
 ·rintro L a W ⟨b1, b3, b5, b6, b7, b9, b14, b16, b20, t10, t12, t14, t15, t16, t18, t23, t25, t29, cl, rfl, rfl, h⟩
  refine ⟨by simp only [cntB, cond_false]; omega, fun h0 => ?_⟩
  exact absurd (ready_all (by kernel_rfl) rfl h0 22 (by decide)) (by show ¬ (false = true); decide)
 ·rintro n L a W ⟨b1, b3, b5, b6, b7, b9, b14, b16, b20, t10, t12, t14, t15, t16, t18, t23, t25, t29, cl, rfl, rfl, h⟩ hst hc
  obtain rfl : b1 = true := hst 1 (by simp)
  obtain rfl : b3 = true := hst 3 (by simp)
  obtain rfl : b5 = true := hst 5 (by simp)
  obtain rfl : b6 = true := hst 6 (by simp)
  obtain rfl : b7 = true := hst 7 (by simp)
  obtain rfl : b9 = true := hst 9 (by simp)
  obtain rfl : b14 = true := hst 14 (by simp)
  obtain rfl : b16 = true := hst 16 (by simp)
  obtain rfl : b20 = true := hst 20 (by simp)
  obtain rfl : n = 3 := hc.symm
  have HE := J (HEnd.u W1.drew W cl _ _ _ _ _ _ _ _ _ HB.u.drew.size HB.u.drew h)
  have hS4 := hS.below h.bel hS.inside
  obtain ⟨gl, gs, lf, S1, S2, e1, _⟩ := h.f1 rfl
  subst e1
  obtain ⟨gp, e1, _⟩ := h.f3 rfl
  subst e1
  obtain ⟨gr, e1, _⟩ := h.f5 rfl
  subst e1
  obtain ⟨_, gt, e1, _⟩ := h.f7 rfl
  subst e1
  obtain ⟨gq, e1, _⟩ := h.f9 rfl
  subst e1
  obtain ⟨gf, e1, _⟩ := h.f14 rfl
  subst e1
  obtain ⟨gb, e1, _⟩ := h.f16 rfl
  subst e1
  obtain ⟨ga, e1, _⟩ := h.f20 rfl
  subst e1
  clear h hst hc HEnd HNew Hm1 Hm2
  refine tq 22 (.agg #[.pointer (some ⟨gl, 0, none⟩), .pointer (some ⟨gt, 0, none⟩), .pointer (some ⟨gq, 0, none⟩), .pointer (some ⟨gf, 0, none⟩), .pointer (some ⟨gb, 0, none⟩), .slice (some ⟨ga, 0, none⟩) p.trigs.length p.trigs.length, .int .i64 sec, .int .i64 0, .int .i64 0, .int .i64 0, .int .i64 0]) rfl (fun W hW => ?_) hS4 ?_
  ·exact exec_build rfl rfl (glo_built gl gt gq gf gb ga p.trigs.length sec)
  simp only [Act.put, tkS]
  refine wpAnyH_ready (rs := [23]) (by kernel_rfl) (by simp) (AllReadyH.cons rfl (fun K hK => ?_) AllReadyH.nil)
  go_simp
  have hS5 := hS4.alloc (.cells #[.pointer (some ⟨gl, 0, none⟩), .pointer (some ⟨gt, 0, none⟩), .pointer (some ⟨gq, 0, none⟩), .pointer (some ⟨gf, 0, none⟩), .pointer (some ⟨gb, 0, none⟩), .slice (some ⟨ga, 0, none⟩) p.trigs.length p.trigs.length, .int .i64 sec, .int .i64 0, .int .i64 0, .int .i64 0, .int .i64 0] 84)
  refine hK.out _ _ hS5 (fun hh => ?_)
  clear hh hK K
  refine tq 24 (.pointer (some ⟨W.heap.size, 0, none⟩)) rfl (fun W hW => ?_) hS5 ?_
  ·clear hW; go_simp
  simp only [Act.put, tkS]
  refine wpAnyH_done (by kernel_rfl) ?_ _
  clear hS hS4 hS5
  go_wp2_with fail
  exact HE.u
 rintro L a W ⟨b1, b3, b5, b6, b7, b9, b14, b16, b20, t10, t12, t14, t15, t16, t18, t23, t25, t29, cl, rfl, rfl, h⟩ hst i hi
 obtain ⟨hun, o, ho, hall⟩ := mem_ready.1 hi
 have hlt : i < 25 := by
  rcases Nat.lt_or_ge i 25 with c | c
  ·exact c
  rw [Array.getD_eq_getD_getElem?, Array.getElem?_eq_none (by simpa using c)] at hun; cases hun
 clear hi
 rcases (show i = 0 ∨ i = 1 ∨ i = 2 ∨ i = 3 ∨ i = 4 ∨ i = 5 ∨ i = 6 ∨ i = 7 ∨ i = 8 ∨ i = 9 ∨ i = 10 ∨ i = 11 ∨ i = 12 ∨ i = 13 ∨ i = 14 ∨ i = 15 ∨ i = 16 ∨ i = 17 ∨ i = 18 ∨ i = 19 ∨ i = 20 ∨ i = 21 ∨ i = 22 ∨ i = 23 ∨ i = 24 by omega) with rfl | rfl | rfl | rfl | rfl | rfl | rfl | rfl | rfl | rfl | rfl | rfl | rfl | rfl | rfl | rfl | rfl | rfl | rfl | rfl | rfl | rfl | rfl | rfl | rfl
 ·cases (show true = false from hun)
 ·obtain rfl : b1 = false := hun
  have hbw : Below w.heap.size w W := HB.u.drew.trans (h.bel.mono HB.u.drew.size)
  refine wpOp_step rfl (fun K' hK => ?_)
  replace hK := J hK
  clear hall ho hst
  have HN := J (HNew.u W hbw)
  clear hbw
  go_simp
  refine HN.u.mono ?_
  rintro e w6 ⟨g, gs, vf, S1, S2, rfl, hw, s1, s2, hb6⟩
  have HG := J (h.m1 hw s1 s2 hb6)
  clear hw s1 s2 hb6
  go_wp2_with fail
  refine hK.out _ _ ⟨true, _, _, _, _, _, _, _, _, _, _, _, _, _, _, _, _, _, paint cl 1 W w6, rfl, rfl, HG.u⟩
 ·cases (show true = false from hun)
 ·obtain rfl : b3 = false := hun
  refine wpOp_step rfl (fun K' hK => ?_)
  replace hK := J hK
  clear hall ho hst
  have hmk := Hm1.u
  go_simp
  refine hK.out _ _ ⟨_, true, _, _, _, _, _, _, _, _, _, _, _, _, _, _, _, _, paint cl 3 W (W.alloc (.cells (zerosI N) 3)), rfl, rfl, h.m3⟩
 ·cases (show true = false from hun)
 ·obtain rfl : b5 = false := hun
  refine wpOp_step rfl (fun K' hK => ?_)
  replace hK := J hK
  clear hall ho hst
  have hmk := Hm1.u
  go_simp
  refine hK.out _ _ ⟨_, _, true, _, _, _, _, _, _, _, _, _, _, _, _, _, _, _, paint cl 5 W (W.alloc (.cells (zerosI N) 3)), rfl, rfl, h.m5⟩
 ·obtain rfl : b6 = false := hun
  cases ho
  have h3 : b3 = true := hall ⟨3, .data⟩ (by simp) rfl
  have h5 : b5 = true := hall ⟨5, .data⟩ (by simp) rfl
  have HG := J (h.m6 h3 h5)
  obtain ⟨gp, e1, _⟩ := h.f3 h3
  subst e1
  obtain ⟨gr, e1, _⟩ := h.f5 h5
  subst e1
  refine wpOp_step rfl (fun K' hK => ?_)
  replace hK := J hK
  clear hall hst h
  go_simp
  refine hK.out _ _ ⟨_, _, _, true, _, _, _, _, _, _, _, _, _, _, _, _, _, _, cl, rfl, rfl, HG.u⟩
 ·obtain rfl : b7 = false := hun
  cases ho
  have h6 : b6 = true := hall ⟨6, .data⟩ (by simp) rfl
  have HG := J (h.m7 h6)
  obtain ⟨h3, h5, e6⟩ := h.f6 h6
  subst e6
  obtain ⟨gp, e1, _⟩ := h.f3 h3
  subst e1
  obtain ⟨gr, e1, _⟩ := h.f5 h5
  subst e1
  refine wpOp_step rfl (fun K' hK => ?_)
  replace hK := J hK
  clear hall hst h
  go_simp
  refine hK.out _ _ ⟨_, _, _, _, true, _, _, _, _, _, _, _, _, _, _, _, _, _, _, rfl, rfl, HG.u⟩
 ·cases (show true = false from hun)
 ·obtain rfl : b9 = false := hun
  refine wpOp_step rfl (fun K' hK => ?_)
  replace hK := J hK
  clear hall ho hst
  go_simp
  refine hK.out _ _ ⟨_, _, _, _, _, true, _, _, _, _, _, _, _, _, _, _, _, _, paint cl 9 W (W.alloc (.cells #[.slice none 0 0, .int .i64 0] 74)), rfl, rfl, h.m9⟩
 ·cases (show true = false from hun)
 ·cases (show true = false from hun)
 ·cases (show true = false from hun)
 ·cases (show true = false from hun)
 ·obtain rfl : b14 = false := hun
  refine wpOp_step rfl (fun K' hK => ?_)
  replace hK := J hK
  clear hall ho hst
  go_simp
  refine hK.out _ _ ⟨_, _, _, _, _, _, true, _, _, _, _, _, _, _, _, _, _, _, paint cl 14 W (W.alloc (.cells #[.slice none 0 0, .int .i64 0, .int .i64 (mostOf most)] 78)), rfl, rfl, h.m14⟩
 ·cases (show true = false from hun)
 ·obtain rfl : b16 = false := hun
  refine wpOp_step rfl (fun K' hK => ?_)
  replace hK := J hK
  clear hall ho hst
  go_simp
  refine hK.out _ _ ⟨_, _, _, _, _, _, _, true, _, _, _, _, _, _, _, _, _, _, paint cl 16 W (W.alloc (.cells #[.slice none 0 0] 82)), rfl, rfl, h.m16⟩
 ·cases (show true = false from hun)
 ·cases (show true = false from hun)
 ·cases (show true = false from hun)
 ·obtain rfl : b20 = false := hun
  refine wpOp_step rfl (fun K' hK => ?_)
  replace hK := J hK
  clear hall ho hst
  have hmk := Hm2.u
  go_simp
  refine hK.out _ _ ⟨_, _, _, _, _, _, _, _, true, _, _, _, _, _, _, _, _, _, paint cl 20 W (W.alloc (.cells (zerosB p.trigs.length) 4)), rfl, rfl, h.m20⟩
 ·cases (show true = false from hun)
 ·cases ho
  have h1 : b1 = true := hall ⟨1, .data⟩ (by simp) rfl
  have h7 : b7 = true := hall ⟨7, .data⟩ (by simp) rfl
  have h9 : b9 = true := hall ⟨9, .data⟩ (by simp) rfl
  have h14 : b14 = true := hall ⟨14, .data⟩ (by simp) rfl
  have h16 : b16 = true := hall ⟨16, .data⟩ (by simp) rfl
  have h20 : b20 = true := hall ⟨20, .data⟩ (by simp) rfl
  have h6 := (h.f7 h7).1
  obtain ⟨h3, h5, _⟩ := h.f6 h6
  exfalso; apply hst
  subst h1 h3 h5 h6 h7 h9 h14 h16 h20
  decide
 ·cases ho; cases (show false = true from hall ⟨22, .data⟩ (by simp) rfl)
 cases ho; cases (show false = true from hall ⟨23, .data⟩ (by simp) rfl)
open Go.RowKit
def WatPost (RT S1 S2 : Nat → Prop) (w : World) (g gs : Nat) (vt vf : Value) (l : Lp) (now sec have0 : Int) (rs : List Rd) (busy : Bool) (e : Ending) (w' : World) : Prop :=
 e = .returned (.tuple #[.int .i64 (lookN l now sec have0 rs busy), .int .i64 (lookE l now sec have0 rs.length)]) ∧ (∃ vw vm, WatAt RT S1 (G.Plus S2 w w') w' g gs vt vf vw vm (lookL l now sec have0 rs busy)) ∧ G.Chg (fun b => S1 b ∨ S2 b) w w'
structure Wk (RT S1 S2 R : Nat → Prop) (w wx : World) (g gs : Nat) (vt vf vw vm : Value) (l : Lp) (v : Value) (rs : List RdV) : Prop where
 wat : WatAt RT S1 S2 wx g gs vt vf vw vm l
 rds : RdsIn R wx v rs
 chg : G.Chg S1 w wx
 one : ∀ b, S1 b → b < w.heap.size
 two : ∀ b, S2 b → b < w.heap.size
 read : ∀ b, R b → ¬ S1 b ∧ ¬ S2 b
 rtl : ∀ b, RT b → b < w.heap.size
section
variable {RT S1 S2 R : Nat → Prop} {w wx wy : World} {g gs : Nat} {vt vf vw vm : Value} {l : Lp} {v : Value} {rs : List RdV}
theorem Wk.below (h : Wk RT S1 S2 R w wx g gs vt vf vw vm l v rs) (hb : Below wx.heap.size wx wy) : Wk RT S1 S2 R w wy g gs vt vf vw vm l v rs :=
 ⟨h.wat.below hb, h.rds.below hb, h.chg.step_below hb h.chg.size, h.one, h.two, h.read, h.rtl⟩
theorem Wk.alloc (h : Wk RT S1 S2 R w wx g gs vt vf vw vm l v rs) (o : Obj) : Wk RT S1 S2 R w (wx.alloc o) g gs vt vf vw vm l v rs := h.below ((Below.refl _ _).alloc (Nat.le_refl _) o)
theorem Wk.drew (h : Wk RT S1 S2 R w wx g gs vt vf vw vm l v rs) : Wk RT S1 S2 R w wx.drew g gs vt vf vw vm l v rs := h.below (Below.refl _ _).drew
theorem Wk.drewN (h : Wk RT S1 S2 R w wx g gs vt vf vw vm l v rs) (n : Nat) : Wk RT S1 S2 R w (wx.drewN n) g gs vt vf vw vm l v rs := h.below (below_drewN (Below.refl _ _) n)
theorem Wk.put (h : Wk RT S1 S2 R w wx g gs vt vf vw vm l v rs) {l' : Lp} {i : Nat} {u : Value} (hp : l'.p.trigs = l.p.trigs) (hf : l'.fails = l.fails) (hs : l'.s = l.s)
  (hc : (lopCells l gs vt vf).setIfInBounds i u = lopCells l' gs vt vf) : Wk RT S1 S2 R w (wx.setCell ⟨g, i, none⟩ u) g gs vt vf vw vm l' v rs :=
 ⟨h.wat.put hp hf hs hc,
  h.rds.chg ((G.Chg.refl (fun b => b = g) wx).put (p := ⟨g, i, none⟩) (.inl rfl) u) (fun b hb e => (h.read b hb).1 (e ▸ h.wat.own)), h.chg.put (.inl h.wat.own) u, h.one, h.two, h.read, h.rtl⟩
theorem Wk.fail (h : Wk RT S1 S2 R w wx g gs vt vf vw vm l v rs) {k bf cf : Nat} {x : Int} (hv : vf = .slice (some ⟨bf, 0, none⟩) l.fails.length cf) (hk : k < l.fails.length) :
  Wk RT S1 S2 R w (wx.setCell ⟨bf, k, none⟩ (.int .i64 x)) g gs vt vf vw vm { l with fails := l.fails.set k x } v rs := by
 have hb : S1 bf := (h.wat.fls.block bf (by rw [hv]; rfl)).1
 exact ⟨h.wat.fail hv hk,
  h.rds.chg ((G.Chg.refl (fun b => b = bf) wx).put (p := ⟨bf, k, none⟩) (.inl rfl) _) (fun b hb2 e => (h.read b hb2).1 (e ▸ hb)), h.chg.put (.inl hb) _, h.one, h.two, h.read, h.rtl⟩
end
theorem wat_no {RT S1 S2 : Nat → Prop} {w : World} {g gs : Nat} {vt vf vw vm : Value} {l : Lp} {now sec have0 : Int} {rs : List Rd} {busy : Bool} (h : WatAt RT S1 S2 w g gs vt vf vw vm l) (hr : ∀ b, RT b → b < w.heap.size) (hn : lookOk l now sec have0 rs.length = false) (w' : World) (hb : Below w.heap.size w w') :
  WatPost RT S1 S2 w g gs vt vf l now sec have0 rs busy (.returned (.tuple #[.int .i64 0, .int .i64 1])) w' := by
 refine ⟨by unfold lookN lookE; rw [if_pos hn, if_pos hn], ⟨vw, vm, ?_⟩, G.Chg.of_below hb (Nat.le_refl _)⟩
 unfold lookL; rw [if_pos hn]
 exact (h.below hb).up h.lim hr
theorem wat_pause {RT S1 S2 : Nat → Prop} {w wx : World} {g gs : Nat} {vt vf vw vm : Value} {l : Lp} {now sec have0 : Int} {rs : List Rd} {busy : Bool} (hn : lookOk l now sec have0 rs.length = true) (hp : 0 ≤ l.pause) (h : WatAt RT S1 S2 wx g gs vt vf vw vm (l.seen now rs)) (hc : G.Chg S1 w wx) (h0 : ∀ b, S1 b → b < w.heap.size) (hr : ∀ b, RT b → b < w.heap.size) (w' : World) (hb : Below wx.heap.size wx w') :
  WatPost RT S1 S2 w g gs vt vf l now sec have0 rs busy (.returned (.tuple #[.int .i64 l.pause, .int .i64 0])) w' := by
 refine ⟨by unfold lookN lookE; rw [hn]; simp [hp], ⟨vw, vm, ?_⟩, (hc.step_below hb hc.size).mono fun _ _ h => .inl h⟩
 unfold lookL; rw [hn, if_neg (by simp), if_pos hp]
 exact (h.below hb).up h0 hr
theorem wat_end {RT S1 S2 : Nat → Prop} {w w1 w2 w' : World} {g gs : Nat} {vt vf vw vm vw' vm' : Value} {l M : Lp} {now sec have0 x y : Int} {rs : List Rd} {busy : Bool} (hn : lookOk l now sec have0 rs.length = true) (hp : l.pause < 0)
  (hM : (l.seen now rs).marked now ((l.seen now rs).told sec have0 rs busy).2 = M) (hx : (l.seen now rs).wish now sec have0 rs busy = x) (hy : clipOf (lowOf M.p M.needed now have0 ((l.seen now rs).told sec have0 rs busy).2) M.p.mx (G.settleN M.s now have0 x) = y)
  (h : WatAt RT S1 S2 w1 g gs vt vf vw vm M) (hc : G.Chg S1 w w1) (h0 : ∀ b, S1 b → b < w.heap.size) (hr : ∀ b, RT b → b < w.heap.size)
  (hs : StbAt 166 198 (G.Plus S2 w1 w2) w2 gs (G.settleS M.s now have0 x) vw' vm') (hc2 : G.Chg S2 w1 w2) (hb : Below w2.heap.size w2 w') :
  WatPost RT S1 S2 w g gs vt vf l now sec have0 rs busy (.returned (.tuple #[.int .i64 y, .int .i64 0])) w' := by
 obtain ⟨e1, e2, e3⟩ := look_fine (busy := busy) hn hp
 have ep : M.p = l.p := by rw [← hM]; cases ((l.seen now rs).told sec have0 rs busy).2 <;> rfl
 have es : M.s = l.s := by rw [← hM]; cases ((l.seen now rs).told sec have0 rs busy).2 <;> rfl
 have z1 := hc.size; have z2 := hc2.size; have z3 := hb.size
 refine ⟨?_, ⟨vw', vm', ?_⟩, ?_⟩
 ·rw [e1, e2, hM, hx, ← hy, ep, es]
 ·rw [e3, hM, hx, ← es]
  have hd : ∀ b, S1 b → ¬ G.Plus S2 w w' b := fun b hb1 h2 => by
   rcases h2 with h2 | h2
   ·exact h.dis b hb1 h2
   have := h0 b hb1; omega
  have hd2 : ∀ b, RT b → ¬ G.Plus S2 w w' b := fun b hb1 h2 => by
   rcases h2 with h2 | h2
   ·exact (h.rt b hb1).2 h2
   have := hr b hb1; omega
  have hl : ∀ b, G.Plus S2 w w' b → b < w'.heap.size := fun b h2 => by
   rcases h2 with h2 | h2
   ·have := h.st.lim b h2; omega
   exact h2.2
  have hbc : G.Chg (fun _ => False) w2 w' := G.Chg.of_below hb (Nat.le_refl _)
  refine ⟨(h.head.chg hc2 (h.dis g h.own)).below hb (by have := h.head.inside; omega), (h.trg.chg hc2 (fun b hb1 => (h.rt b hb1).2)).chg hbc (fun _ _ h => h), (h.fls.chg hc2 h.dis).below hb (Nat.le_refl _), (hs.below hb).mono (fun b hlt hb2 => ?_) hl, h.own, hd, fun b hb1 => by have := h0 b hb1; omega, fun b hb1 => ⟨(h.rt b hb1).1, hd2 b hb1⟩⟩
  rcases hb2 with hb2 | hb2
  ·exact .inl hb2
  exact .inr ⟨by omega, hlt⟩
 refine ((hc.mono fun _ _ h => Or.inl h).trans ?_).step_below hb (by omega)
 exact hc2.mono fun _ _ h => Or.inr h
theorem told_step {L : Lp} {sec have0 : Int} {rs : List RdV} {busy : Bool} {k : Nat} {t : Trg} {r : RdV} {f : Int} {P N : Int} {B C : Bool} (ht : L.p.trigs[k]? = some t) (hr : rs[k]? = some r) (hf : L.fails[k]? = some f) (h : toldK L sec have0 (rs.map RdV.rd) busy k = (P, B)) (hN : oneT L.p t f r.rd sec have0 = (N, C)) :
  toldK L sec have0 (rs.map RdV.rd) busy (k + 1) = (max P N, B || C) := by
 have hT := allT_snoc (p := L.p) (sec := sec) (have0 := have0) (x := (0, busy)) ht (show (rs.map RdV.rd)[k]? = some r.rd by rw [List.getElem?_map, hr]; rfl) hf
 have hT2 : toldK L sec have0 (rs.map RdV.rd) busy (k + 1) = (max (toldK L sec have0 (rs.map RdV.rd) busy k).1 (oneT L.p t f r.rd sec have0).1, (toldK L sec have0 (rs.map RdV.rd) busy k).2 || (oneT L.p t f r.rd sec have0).2) := hT
 rw [h, hN] at hT2
 exact hT2
open Go.RowKit
def LopRun (w0 : World) (top : Nat) (w : World) (g : Nat) (l : Lp) : Prop :=
 ∃ (gs : Nat) (vt vf vw vm : Value) (S1 S2 : Nat → Prop), LopAt 117 155 200 S1 S2 w g gs vt vf vw vm l ∧ (∀ b, S1 b ∨ S2 b → w0.heap.size ≤ b ∧ b < top) ∧ Below w0.heap.size w0 w
theorem LopRun.top {w0 w : World} {top g : Nat} {l : Lp} (h : LopRun w0 top w g l) : LopRun w0 w.heap.size w g l := by
 obtain ⟨gs, vt, vf, vw, vm, S1, S2, h1, h2, h3⟩ := h
 exact ⟨gs, vt, vf, vw, vm, S1, S2, h1, fun b hb => ⟨(h2 b hb).1, hb.elim (h1.lim b) (h1.st.lim b)⟩, h3⟩
open Go.RowKit
section
variable {R : Nat → Prop} {p : Wp} {m : Wo}
theorem two_loads {l : List G.Pod} {a b : Int} (h : G.Crewed l a b) (hb : b ≤ 100) : ∀ p ∈ l, 0 ≤ p.load ∧ p.load ≤ 1000 := fun p hp => by have := h.loads p hp; omega
theorem woPut (n : Int) (w : World) (h : WoN R w p m) (l0 : 0 ≤ m.ql) (l1 : m.ql ≤ 4000000000000000000) :
  Calls Tryz.prog 21 #[.pointer (some ⟨p.gq, 0, none⟩), .int .i64 n] w fun e w' => e = .returned (.tuple #[.int .i64 (G.putNum m.q m.ql n), .int .i64 (G.putErr m.q n)]) ∧ WoC R w w' p { m with q := G.putLst m.q m.ql n, ql := G.putLast m.q m.ql n } := by
 obtain ⟨a, ha, hR⟩ := h
 refine (quePut _ p.gq a.vq m.q m.ql n w ha.qu l0 l1).mono ?_
 rintro e w' ⟨he, ⟨v', hq⟩, hc⟩
 exact ⟨he, WoN.queue ha hR hq hc⟩
theorem woLease (now n : Int) (w : World) (h : WoN R w p m) :
  Calls Tryz.prog 22 #[.pointer (some ⟨p.gq, 0, none⟩), .int .i64 now, .int .i64 n] w fun e w' => e = .returned (.tuple #[.int .i64 (G.leaseNum m.q now n), .int .i64 (G.leaseErr m.q now n)]) ∧ WoC R w w' p { m with q := G.leaseLst m.q now n } := by
 obtain ⟨a, ha, hR⟩ := h
 refine (queLease _ p.gq a.vq m.q m.ql now n w ha.qu).mono ?_
 rintro e w' ⟨he, hq, hc⟩
 exact ⟨he, WoN.queue ha hR hq.up hc⟩
theorem woAck (now n : Int) (w : World) (h : WoN R w p m) :
  Calls Tryz.prog 23 #[.pointer (some ⟨p.gq, 0, none⟩), .int .i64 now, .int .i64 n] w fun e w' => e = .returned (.int .i64 (G.ackErr m.q now n)) ∧ WoC R w w' p { m with q := G.ackLst m.q now n } := by
 obtain ⟨a, ha, hR⟩ := h
 refine (queAck _ p.gq a.vq m.q m.ql now n w ha.qu).mono ?_
 rintro e w' ⟨he, ⟨v', hq⟩, hc⟩
 exact ⟨he, WoN.queue ha hR hq.up hc⟩
theorem woDepth (now : Int) (w : World) (h : WoN R w p m) :
  Calls Tryz.prog 129 #[.pointer (some ⟨p.gq, 0, none⟩), .int .i64 now] w fun e w' => e = .returned (.tuple #[.int .i64 (G.depthNum m.q now), .int .i64 (G.nowErr now)]) ∧ WoC R w w' p { m with q := G.nowLst m.q now } := by
 obtain ⟨a, ha, hR⟩ := h
 refine (queDepth _ p.gq a.vq m.q m.ql now w ha.qu).mono ?_
 rintro e w' ⟨he, hq, hc⟩
 exact ⟨he, WoN.queue ha hR hq.up hc⟩
theorem woScale (n : Int) (w : World) (h : WoN R w p m) (hcr : G.Crewed m.f m.fl m.most) (hm : 0 ≤ m.most) (hs : m.f.length ≤ 9000000) (hla : m.fl ≤ 1000000000000) :
  Calls Tryz.prog 110 #[.pointer (some ⟨p.gf, 0, none⟩), .int .i64 n] w fun e w' => e = .returned (.int .i64 (G.scaleErr n)) ∧ WoC R w w' p { m with f := G.scaleLst m.f m.fl n, fl := G.scaleLast m.f m.fl n } := by
 obtain ⟨a, ha, hR⟩ := h
 refine (fleScale _ p.gf a.vp m.f m.fl m.most n w ha.fl hcr hm hs hla).mono ?_
 rintro e w' ⟨he, ⟨v', hq⟩, hc⟩
 exact ⟨he, WoN.fleet ha hR hq hc⟩
theorem woStart (n : Int) (w : World) (h : WoN R w p m) :
  Calls Tryz.prog 26 #[.pointer (some ⟨p.gf, 0, none⟩), .int .i64 n] w fun e w' => e = .returned (.int .i64 (G.turnErr m.f n 1)) ∧ WoC R w w' p { m with f := G.turnLst m.f n 1 2 } := by
 obtain ⟨a, ha, hR⟩ := h
 refine (fleStart _ p.gf a.vp m.f m.fl m.most n w ha.fl).mono ?_
 rintro e w' ⟨he, ⟨v', hq⟩, hc⟩
 exact ⟨he, WoN.fleet ha hR hq.up hc⟩
theorem woReady (n : Int) (w : World) (h : WoN R w p m) :
  Calls Tryz.prog 28 #[.pointer (some ⟨p.gf, 0, none⟩), .int .i64 n] w fun e w' => e = .returned (.int .i64 (G.turnErr m.f n 2)) ∧ WoC R w w' p { m with f := G.turnLst m.f n 2 3 } := by
 obtain ⟨a, ha, hR⟩ := h
 refine (fleReady _ p.gf a.vp m.f m.fl m.most n w ha.fl).mono ?_
 rintro e w' ⟨he, ⟨v', hq⟩, hc⟩
 exact ⟨he, WoN.fleet ha hR hq.up hc⟩
theorem woCrash (n : Int) (w : World) (h : WoN R w p m) :
  Calls Tryz.prog 73 #[.pointer (some ⟨p.gf, 0, none⟩), .int .i64 n] w fun e w' => e = .returned (.tuple #[.int .i64 (G.crashNum m.f n), .int .i64 (G.crashErr m.f n)]) ∧ WoC R w w' p { m with f := G.crashLst m.f n } := by
 obtain ⟨a, ha, hR⟩ := h
 refine (fleCrash _ p.gf a.vp m.f m.fl m.most n w ha.fl).mono ?_
 rintro e w' ⟨he, ⟨v', hq⟩, hc⟩
 exact ⟨he, WoN.fleet ha hR hq.up hc⟩
theorem woPodDone (n : Int) (w : World) (h : WoN R w p m) (hld : ∀ p ∈ m.f, 0 ≤ p.load ∧ p.load ≤ 1000) :
  Calls Tryz.prog 77 #[.pointer (some ⟨p.gf, 0, none⟩), .int .i64 n] w fun e w' => e = .returned (.int .i64 (G.podDoneErr m.f n)) ∧ WoC R w w' p { m with f := G.podDoneLst m.f n } := by
 obtain ⟨a, ha, hR⟩ := h
 refine (fleDone _ p.gf a.vp m.f m.fl m.most n w ha.fl hld).mono ?_
 rintro e w' ⟨he, ⟨v', hq⟩, hc⟩
 exact ⟨he, WoN.fleet ha hR hq.up hc⟩
theorem woGive (w : World) (h : WoN R w p m) (hm : m.most ≤ 1000) (hld : ∀ p ∈ m.f, 0 ≤ p.load) :
  Calls Tryz.prog 112 #[.pointer (some ⟨p.gf, 0, none⟩)] w fun e w' => e = .returned (.tuple #[.int .i64 (G.giveNum m.f m.most), .int .i64 (G.giveErr m.f m.most)]) ∧ WoC R w w' p { m with f := G.giveLst m.f m.most } := by
 obtain ⟨a, ha, hR⟩ := h
 refine (fleGive _ p.gf a.vp m.f m.fl m.most w ha.fl hm hld).mono ?_
 rintro e w' ⟨he, ⟨v', hq⟩, hc⟩
 exact ⟨he, WoN.fleet ha hR hq.up hc⟩
theorem woAsk (now s n : Int) (w : World) (h : WoN R w p m) :
  Calls Tryz.prog 30 #[.pointer (some ⟨p.gb, 0, none⟩), .int .i64 now, .int .i64 s, .int .i64 n] w fun e w' => e = .returned (.tuple #[.int .i64 (G.askNum m.b now s n), .int .i64 (G.askErr m.b now s n)]) ∧ WoC R w w' p { m with b := G.askLst m.b now s n } := by
 obtain ⟨a, ha, hR⟩ := h
 refine (bufAsk _ p.gb a.vb m.b now s n w ha.bu).mono ?_
 rintro e w' ⟨he, ⟨v', hq⟩, hc⟩
 exact ⟨he, WoN.buffer ha hR hq hc⟩
theorem woRun (id pod : Int) (w : World) (h : WoN R w p m) :
  Calls Tryz.prog 113 #[.pointer (some ⟨p.gb, 0, none⟩), .int .i64 id, .int .i64 pod] w fun e w' => e = .returned (.int .i64 (G.runErr m.b id)) ∧ WoC R w w' p { m with b := G.runLst m.b id pod } := by
 obtain ⟨a, ha, hR⟩ := h
 refine (bufRun _ p.gb a.vb m.b id pod w ha.bu).mono ?_
 rintro e w' ⟨he, ⟨v', hq⟩, hc⟩
 exact ⟨he, WoN.buffer ha hR hq.up hc⟩
theorem woReqDone (id : Int) (w : World) (h : WoN R w p m) :
  Calls Tryz.prog 76 #[.pointer (some ⟨p.gb, 0, none⟩), .int .i64 id] w fun e w' => e = .returned (.tuple #[.int .i64 (G.doneNum m.b id), .int .i64 (G.doneErr m.b id)]) ∧ WoC R w w' p { m with b := G.doneLst m.b id } := by
 obtain ⟨a, ha, hR⟩ := h
 refine (bufDone _ p.gb a.vb m.b id w ha.bu).mono ?_
 rintro e w' ⟨he, ⟨v', hq⟩, hc⟩
 exact ⟨he, WoN.buffer ha hR hq.up hc⟩
theorem woMake (i n : Int) (w : World) (h : WoN R w p m) (hs : Small m.t) :
  Calls Tryz.prog 19 #[.pointer (some ⟨p.gt, 0, none⟩), .int .i64 i, .int .i64 n] w fun e w' => e = .returned (.int .i64 (makeErr m.t i n)) ∧ WoC R w w' p { m with t := makeLst m.t i n } := by
 obtain ⟨a, ha, hR⟩ := h
 refine (topMake_any p.gt a.gp m.t i n w ha.tp hs).mono ?_
 rintro e w' ⟨he, hq, hc⟩
 exact ⟨he, WoN.topic ha hR hq hc⟩
theorem woTake (i n : Int) (w : World) (h : WoN R w p m) :
  Calls Tryz.prog 20 #[.pointer (some ⟨p.gt, 0, none⟩), .int .i64 i, .int .i64 n] w fun e w' => e = .returned (.int .i64 (takeErr m.t i n)) ∧ WoC R w w' p { m with t := takeLst m.t i n } := by
 obtain ⟨a, ha, hR⟩ := h
 refine (topTake_any p.gt a.gp m.t i n w ha.tp).mono ?_
 rintro e w' ⟨he, hq, hc⟩
 exact ⟨he, WoN.topic ha hR hq hc⟩
theorem woPause (n : Int) (w : World) (h : WoN R w p m) :
  Calls Tryz.prog 25 #[.pointer (some ⟨p.gl, 0, none⟩), .int .i64 n] w fun e w' => e = .returned (.int .i64 (pauseE n)) ∧ WoC R w w' p { m with l := pauseL m.l n } := by
 obtain ⟨a, ha, hR⟩ := h
 refine (lopPause (fun b => a.P b = 2) (fun b => a.P b = 3) p.gl a.gs a.lt a.lf a.lw a.lm m.l n w ha.lp).mono ?_
 rintro e w' ⟨he, hq, hc⟩
 exact ⟨he, WoN.loop ha hR (pauseL_p _ _) (hq.up (fun b hb => ha.lim b (by omega))) (hc.mono fun b _ hb => .inl hb)⟩
theorem woDue (now : Int) (j : Nat) (w : World) (h : WoN R w p m) (hj : m.l.ok j) (n0 : -9223372036854775808 ≤ now) (n1 : now ≤ 9223372036854775807) :
  Calls Tryz.prog 63 #[.pointer (some ⟨p.gl, 0, none⟩), .int .i64 now] w fun e w' => e = .returned (.bool (dueB m.l now)) ∧ WoC R w w' p m := by
 obtain ⟨a, ha, hR⟩ := id h
 refine (lopDue _ p.gl a.gs a.lt a.lf m.l now w ha.lp.head n0 n1 hj.last0 hj.last1).mono ?_
 rintro e w' ⟨he, hb⟩
 exact ⟨he, (WoC.refl h).below hb⟩
theorem woLook (Q : Nat → Prop) (v : Value) (now sec have0 : Int) (rs : List RdV) (busy : Bool) (j : Nat) (w : World) (h : WoN R w p m) (hr : RdsIn Q w v rs) (hQ : ∀ b, Q b → R b) (hj : m.l.ok j) (hj2 : j ≤ 90000) (hn : rs.length ≤ 9223372036854775807) :
  Calls Tryz.prog 108 #[.pointer (some ⟨p.gl, 0, none⟩), .int .i64 now, .int .i64 sec, .int .i64 have0, v, .bool busy] w fun e w' => e = .returned (.tuple #[.int .i64 (lookN m.l now sec have0 (rs.map RdV.rd) busy), .int .i64 (lookE m.l now sec have0 (rs.map RdV.rd).length)]) ∧ WoC R w w' p { m with l := lookL m.l now sec have0 (rs.map RdV.rd) busy } := by
 obtain ⟨a, ha, hR⟩ := h
 refine (lopLook (fun b => a.P b = 2) (fun b => a.P b = 3) Q p.gl a.gs a.lt a.lf a.lw a.lm v m.l now sec have0 rs busy j w ha.lp hr (fun b hb => by have := (hR b (hQ b hb)).1; exact ⟨by omega, by omega⟩) hj hj2 hn).mono ?_
 rintro e w' ⟨he, ⟨vw', vm', hq⟩, hc⟩
 exact ⟨he, WoN.loop ha hR (lookL_p _ _ _ _ _ _) hq hc⟩
theorem woNext (w : World) (h : WoN R w p m) :
  Calls Tryz.prog 111 #[.pointer (some ⟨p.gb, 0, none⟩)] w fun e w' => e = .returned (.tuple #[.int .i64 (G.nextN m.b), .bool (decide (0 < G.nextN m.b))]) ∧ WoC R w w' p m := by
 obtain ⟨a, ha, hR⟩ := id h
 refine (bufNext _ p.gb a.vb m.b w ha.bu).mono ?_
 rintro e w' ⟨he, hb⟩
 exact ⟨he, (WoC.refl h).below hb⟩
theorem woBusy (w : World) (h : WoN R w p m) :
  Calls Tryz.prog 107 #[.pointer (some ⟨p.gb, 0, none⟩)] w fun e w' => e = .returned (.tuple #[.int .i64 (G.countF (-1) 1 m.b), .int .i64 (G.countF (-1) 2 m.b)]) ∧ Below w.heap.size w w' := by
 obtain ⟨a, ha, hR⟩ := id h
 exact bufCount2 _ p.gb a.vb m.b w ha.bu
theorem woLive (w : World) (h : WoN R w p m) :
  Calls Tryz.prog 109 #[.pointer (some ⟨p.gf, 0, none⟩)] w fun e w' => e = .returned (.int .i64 (G.liveN m.f)) ∧ Below w.heap.size w w' := by
 obtain ⟨a, ha, hR⟩ := id h
 exact fleCount _ p.gf a.vp m.f m.fl m.most w ha.fl
theorem woLate (now : Int) (w : World) (h : WoN R w p m) :
  Calls Tryz.prog 62 #[.pointer (some ⟨p.gb, 0, none⟩), .int .i64 now] w fun e w' => (∃ v, e = .returned (.tuple #[v, .int .i64 (G.lateErr now)])) ∧ WoC R w w' p { m with b := G.lateLst m.b now } := by
 obtain ⟨a, ha, hR⟩ := h
 refine (bufLate _ p.gb a.vb m.b now w ha.bu).mono ?_
 rintro e w' ⟨v, he, _, hq, hc⟩
 exact ⟨⟨v, he⟩, WoN.buffer ha hR hq.up hc⟩
theorem woLost (pod : Int) (w : World) (h : WoN R w p m) :
  Calls Tryz.prog 74 #[.pointer (some ⟨p.gb, 0, none⟩), .int .i64 pod] w fun e w' => (∃ v, e = .returned v) ∧ WoC R w w' p { m with b := G.lostLst m.b pod } := by
 obtain ⟨a, ha, hR⟩ := h
 refine (bufLost _ p.gb a.vb m.b pod w ha.bu).mono ?_
 rintro e w' ⟨v, he, _, hq, hc⟩
 exact ⟨⟨v, he⟩, WoN.buffer ha hR hq.up hc⟩
theorem woPods (w : World) (h : WoN R w p m) : Calls Tryz.prog 92 #[.pointer (some ⟨p.gf, 0, none⟩)] w (FleAllPost w m.f) := by
 obtain ⟨a, ha, hR⟩ := h
 exact fleAll _ p.gf a.vp m.f m.fl m.most w ha.fl
theorem woReqs (w : World) (h : WoN R w p m) : Calls Tryz.prog 93 #[.pointer (some ⟨p.gb, 0, none⟩)] w (BufAllPost w m.b) := by
 obtain ⟨a, ha, hR⟩ := h
 exact bufAll _ p.gb a.vb m.b w ha.bu
theorem woLags (w : World) (h : WoN R w p m) (hs : Small m.t) : Calls Tryz.prog 94 #[.pointer (some ⟨p.gt, 0, none⟩)] w (LagsPost w (lagsOf m.t)) := by
 obtain ⟨a, ha, hR⟩ := h
 exact topLags p.gt a.gp m.t w ha.tp hs
theorem woMsgs (now : Int) (w : World) (h : WoN R w p m) :
  Calls Tryz.prog 95 #[.pointer (some ⟨p.gq, 0, none⟩), .int .i64 now] w fun e w' => (∃ v', e = .returned (.tuple #[v', .int .i64 (G.nowErr now)]) ∧ G.OwnRow (fun b => w.heap.size ≤ b) w' 111 3 v' (G.allLst m.q now).length ((G.allLst m.q now).flatMap G.Msg.enc)) ∧ WoN (fun b => R b ∨ (w.heap.size ≤ b ∧ b < w'.heap.size)) w' p { m with q := G.nowLst m.q now } ∧ G.Chg (fun b => ¬ R b) w w' := by
 obtain ⟨a, ha, hR⟩ := h
 refine (queAll _ p.gq a.vq m.q m.ql now w ha.qu).mono ?_
 rintro e w' ⟨he, hq, hc⟩
 obtain ⟨k1, k2, k3, k4⟩ := ha.keep1 0 hc (fun _ _ _ => by omega)
 obtain ⟨k5, k6⟩ := ha.keep4a 0 w'
 exact ⟨he, WoN.next0 hR (a' := { a with P := paint a.P 0 w w' }) ⟨k1, k2, k3, ha.keep2 0 hc (fun _ _ _ => by omega) (fun _ _ _ => by omega), ha.keep4 0 hc (fun _ _ _ => by omega), k5, k6, hq.mono (fun b hb e => paint_ne ha.lim (by omega) hb e) (fun b e => paint_lt ha.lim hc.size (by omega) e), ha.keep6 0 hc (fun _ _ _ => by omega), ha.keep7 0 hc (fun _ _ _ => by omega), k4, fun b hb => paint_lim ha.lim hc.size hb⟩ rfl hc (fun _ h => by omega)⟩
end
end Go.Proofs.YtidonhndeohdlaaGreat
