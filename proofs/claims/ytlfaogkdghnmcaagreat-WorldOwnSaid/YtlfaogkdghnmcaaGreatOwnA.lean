/- WorldOwn: the operations of the region that copies the triggers; two worlds beside blocks that are spoiled. -/
import Derived.Test.YtlfaogkdghnmcaaGreatTwoW
import Derived.Test.YtlfaogkdghnmcaaGreatZLopC
import Derived.Test.YtlfaogkdghnmcaaGreatSpoil
import Derived.Deep.AppendSrc
import Derived.Deep.Upon
import Derived.Laws.MakeOwn
set_option linter.unusedVariables false
set_option linter.unusedSimpArgs false
namespace Go.Proofs.YtlfaogkdghnmcaaGreat
open Go.RowKit
section
variable {P : Program} {ops : Array Oper} {o : Oper} {a : Act} {w : World} {K : Act → World → Prop} {Q : Exit → Act → World → Prop} {E : Prop}
/-- whatever is appended to a row of one's own that is there -/
theorem step_append_any (hgd : o.guard = none) (s x : Operand) (t : TypeId) (ho : o.op = .call { callee := .builtin .append, args := #[s, x], argTypes := #[t, t] })
    (base : Nat) (e : TypeId) (i : TypeInfo) (z : Value) (size bytes : Nat) (ht : P.underlying t = some (.slice e)) (hi : P.info? e = some i) (hz : i.zero = some z)
    (hsize : i.size = size) (hby : i.bytes = bytes) (hzs : z.cells.size = size) (hsz : 0 < size)
    (g0 c0 n : Nat) (xs : List Value) (hs : a.eval s = .slice (some ⟨g0, 0, none⟩) n c0) (hown : w.ownsRow base e size (.slice (some ⟨g0, 0, none⟩) n c0) n xs)
    (A : Option Addr) (m c : Nat) (news : List Value) (hx : a.eval x = .slice A m c) (hl : news.length = m * size) (hA : A = none → m = 0) (hnews : ∀ ad, A = some ad → ∀ (j : Nat) (u : Value), news[j]? = some u → w.cell? (ad.add j) = some u) (h1 : ∀ u ∈ news, u.oneCell' = true)
    (k : Nat) (hk : n + m = k) (ys : List Value) (hys : xs ++ news = ys) (h63 : k ≤ maxLen) (hbytes : k * bytes ≤ 140737488355328) (hbase : base ≤ w.heap.size)
    (h : ∀ g cap w', w'.ownsRow base e size (.slice (some ⟨g, 0, none⟩) k cap) k ys → w.grownBy w' (some g0) → (g0 = g ∨ g = w.heap.size) → g < w'.heap.size → K (a.put o.dst (.slice (some ⟨g, 0, none⟩) k cap)) w') :
    if Region.wanted o (yielded ops a.tmps) = true then Oper.wp P o a w K Q else E := by
  have hw : Region.wanted o (yielded ops a.tmps) = true := by simp [Region.wanted, hgd]
  subst hk hys
  rcases Nat.eq_zero_or_pos m with hm | hm
  · subst hm
    obtain rfl : news = [] := List.length_eq_zero_iff.1 (by rw [hl, Nat.zero_mul])
    have hle : n ≤ c0 := by
      rcases hown.2 with ⟨e, _⟩ | ⟨g, cap, cur, e, _, _, h4, _⟩
      · cases e
      · cases e; exact h4
    have hsrc : Src P i.size t (.slice A 0 c) 0 [] w := by
      cases A with
      | none => exact Src.ofNil w ht c
      | some ad => exact Src.ofSlice w ht ad 0 c [] (by simp) (fun j u hu => by simp at hu) (fun u hu => by cases hu)
    have hr := run_append_nothing (P := P) w t t o.type e i ht hi (some ⟨g0, 0, none⟩) n c0 hle (.slice A 0 c) hsrc
    have hlt := (hown.lt g0 rfl).2
    rw [if_pos hw]
    unfold Oper.wp execOp
    simp only [ho, resolve, invoke, builtin, Sem.run_bind, Sem.run_pure, Result.andThen_ok, List.map_toArray, List.map_cons, List.map_nil, hs, hx, hr]
    exact h g0 c0 w (by rw [List.append_nil]; exact hown) ⟨rfl, rfl, rfl, Nat.le_refl _, fun _ _ _ => rfl⟩ (.inl rfl) hlt
  · cases A with
    | none => exact absurd (hA rfl) (by omega)
    | some ad =>
      exact step_append_lies w hgd s x t ho base e i z size bytes ht hi hz hsize hby hzs hsz _ n xs hs hown ad m c news hx hl (hnews ad rfl) h1 hm h63 hbytes hbase _ rfl
        (fun g cap w' h2 h3 h4 h5 => h g cap w' h2 h3 (h4.imp (fun e => by simpa [Value.ownBlock] using e) id) h5)
theorem step_bslice (hgd : o.guard = none) (t e : TypeId) (len : Nat) (parts : Array (Nat × Operand)) (ho : o.op = .buildSlice t len parts) (l : List (Nat × Value)) (hp : parts.toList.map (fun y => (y.1, a.eval y.2)) = l) (cells : Array Value) (ie : TypeInfo) (z : Value)
    (hu : P.underlying t = some (.slice e)) (hie : P.info? e = some ie) (hz : ie.zero = some z) (hsmall : ¬ len * ie.size > 2 ^ 24) (hpos : ¬ len * ie.size = 0)
    (hf : Instr.fill (fun i => some (i * ie.size, ie.size)) ((Array.range (len * ie.size)).map (z.cells[· % z.cells.size]!)) l = some cells)
    (h : ∀ w', Tide.At w' w.heap.size e cells → w.grownBy w' none → K (a.put o.dst (.slice (some ⟨w.heap.size, 0, none⟩) len len)) w') : if Region.wanted o (yielded ops a.tmps) = true then Oper.wp P o a w K Q else E := by
  have hw : Region.wanted o (yielded ops a.tmps) = true := by simp [Region.wanted, hgd]
  rw [if_pos hw]
  subst hp
  rw [← Array.toList_map] at hf
  exact wp_buildSlice t e len parts ho cells ie z hu hie hz hsmall hpos hf (h _ (Tide.At.made w e cells) (World.grownBy_alloc w _ none))
theorem step_make (hgd : o.guard = none) (t e : TypeId) (x y : Operand) (ho : o.op = .makeSlice t x y) (n : Nat) (hx : a.eval x = .int .i64 0) (hy : a.eval y = .int .i64 (n : Int)) (i : TypeInfo) (z : Value)
    (ht : P.underlying t = some (.slice e)) (hi : P.info? e = some i) (hz : i.zero = some z) (base size : Nat) (hsize : i.size = size) (hbytes : i.bytes * n ≤ 281474976710656) (h63 : n ≤ maxLen) (hbase : base ≤ w.heap.size)
    (h : ∀ w', w'.ownsRow base e size (.slice (some ⟨w.heap.size, 0, none⟩) 0 n) 0 [] → w.grownBy w' none → K (a.put o.dst (.slice (some ⟨w.heap.size, 0, none⟩) 0 n)) w') : if Region.wanted o (yielded ops a.tmps) = true then Oper.wp P o a w K Q else E := by
  have hw : Region.wanted o (yielded ops a.tmps) = true := by simp [Region.wanted, hgd]
  rw [if_pos hw]
  obtain ⟨w', hr, h1, h2⟩ := run_make_own (P := P) w base t e i z size ht hi hz hsize .i64 .i64 n hbytes h63 hbase
  unfold Oper.wp execOp
  simp only [ho, hx, hy, Sem.run_bind, Sem.run_pure, Result.andThen_ok, hr]
  exact h w' h1 h2
end
def T9C : Array Value := #[.int .i64 9, .int .i64 0, .int .i64 0, .int .u64 0, .int .u64 0, .int .u64 0, .int .u64 0, .int .u64 0, .bool false, .bool false, .int .u64 0, .int .u64 0, .int .u64 0, .int .u64 0, .int .u64 0, .bool false, .bool false]
theorem t9_built : Tryz.prog.built 37 [(0, .int .i64 9)] = some T9C := by kernel_rfl
theorem t9_fill : Instr.fill (fun i => some (i * 17, 17)) ((Array.range (1 * 17)).map ((Value.agg #[.int .i64 0, .int .i64 0, .int .i64 0, .int .u64 0, .int .u64 0, .int .u64 0, .int .u64 0, .int .u64 0, .bool false, .bool false, .int .u64 0, .int .u64 0, .int .u64 0, .int .u64 0, .int .u64 0, .bool false, .bool false]).cells[· % (Value.agg #[.int .i64 0, .int .i64 0, .int .i64 0, .int .u64 0, .int .u64 0, .int .u64 0, .int .u64 0, .int .u64 0, .bool false, .bool false, .int .u64 0, .int .u64 0, .int .u64 0, .int .u64 0, .int .u64 0, .bool false, .bool false]).cells.size]!)) [(0, .agg T9C)] = some T9C := by kernel_rfl
theorem t9_one : ∀ u ∈ T9C.toList, u.oneCell' = true := by
  intro u hu
  simp only [T9C, List.mem_cons, List.not_mem_nil, or_false] at hu
  rcases hu with rfl | rfl | rfl | rfl | rfl | rfl | rfl | rfl | rfl | rfl | rfl | rfl | rfl | rfl | rfl | rfl | rfl <;> rfl
theorem own_news {w : World} {A : Option Addr} {cap : Nat} {l : List Trg} (h : Tide.ListIn w 17 Trg.enc (.slice A l.length cap) l) : (A = none → l.length = 0) ∧ ∀ ad, A = some ad → ∀ (j : Nat) (u : Value), (l.flatMap Trg.enc)[j]? = some u → w.cell? (ad.add j) = some u := by
  rcases Nat.eq_zero_or_pos l.length with h0 | h0
  · refine ⟨fun _ => h0, fun ad _ j u hu => ?_⟩
    obtain rfl : l = [] := List.length_eq_zero_iff.1 h0
    simp at hu
  · obtain ⟨A', cap', e, hA⟩ := h
    obtain ⟨b, off, e1, _⟩ := hA h0
    have h := (show Tide.ListIn w 17 Trg.enc (.slice A l.length cap) l from ⟨A', cap', e, hA⟩)
    cases e
    subst e1
    refine ⟨fun e => (by cases e), fun ad e j u hu => ?_⟩
    cases e
    rw [Addr.add_lit]
    exact list_cells Trg.enc_length (by omega) h0 h j u hu
theorem own_kept {w w' : World} {B : Nat} {e : TypeId} {s : Nat} {v : Value} {n : Nat} {xs : List Value} (h : w.ownsRow B e s v n xs) (hg : w.grownBy w' none) : w'.ownsRow B e s v n xs :=
  Tide.own_chg h ((Tide.Chg.refl (fun _ => False) w).grown hg (fun g e => by cases e)) (fun _ _ _ h => h)
/-- the two plans' boxes -/
def OwnS (g0 g1 : Nat) (c0 : Array Value) (c1 : Value → Array Value) (W : World) : Prop := Tide.At W g0 29 c0 ∧ ∃ u, Tide.At W g1 29 (c1 u)
theorem OwnS.grown {g0 g1 : Nat} {c0 : Array Value} {c1 : Value → Array Value} {W W' : World} {row : Option Nat} (h : OwnS g0 g1 c0 c1 W) (hg : W.grownBy W' row) (h0 : row ≠ some g0) (h1 : row ≠ some g1) : OwnS g0 g1 c0 c1 W' := by
  obtain ⟨a, u, b⟩ := h
  exact ⟨a.grown hg h0, u, b.grown hg h1⟩
theorem OwnS.alloc {g0 g1 : Nat} {c0 : Array Value} {c1 : Value → Array Value} {W : World} (h : OwnS g0 g1 c0 c1 W) (o : Obj) : OwnS g0 g1 c0 c1 (W.alloc o) := by
  obtain ⟨a, u, b⟩ := h
  exact ⟨a.alloc o, u, b.alloc o⟩
/-- behind the region: the copy -/
structure OwnIn (w wx : World) (g0 g1 : Nat) (c0 : Array Value) (c1 : Value → Array Value) (n : Nat) (xs : List Value) (g c : Nat) : Prop where
  box : Tide.At wx g0 29 c0
  inn : Tide.At wx g1 29 (c1 (.slice (some ⟨g, 0, none⟩) n c))
  row : Tide.OwnRow (fun b => g1 < b) wx 37 17 (.slice (some ⟨g, 0, none⟩) (n + 1) c) (n + 1) (xs ++ T9C.toList)
  below : Below w.heap.size w wx
/-- two worlds, and something else that turns beside them -/
theorem TwoW.stir {R C : Nat → Prop} {w w' : World} {p p2 : Wp} {m m2 : Wo} (h : TwoW R w p m p2 m2) (hc : Tide.Chg C w w') (hC : ∀ b, C b → R b) : TwoW (fun b => R b ∨ (w.heap.size ≤ b ∧ b < w'.heap.size)) w' p m p2 m2 := by
  obtain ⟨a, a2, h1, h2, h3, h4⟩ := h
  have hz := hc.size
  refine ⟨_, _, h1.turn hc (fun b hb => (h4 b (hC b hb)).1), h2.turn hc (fun b hb => (h4 b (hC b hb)).2.1), fun b => ?_, fun b hb => ?_⟩
  · show paint a.P 0 w w' b = 0 ∨ paint a2.P 0 w w' b = 0
    rw [(paint_zero h1.lim b).1, (paint_zero h2.lim b).1]; exact h3 b
  · show paint a.P 0 w w' b = 0 ∧ paint a2.P 0 w w' b = 0 ∧ _
    rcases hb with hb | hb
    · rw [(paint_zero h1.lim b).1, (paint_zero h2.lim b).1]; exact ⟨(h4 b hb).1, (h4 b hb).2.1, Nat.lt_of_lt_of_le (h4 b hb).2.2 hz⟩
    · exact ⟨(paint_zero h1.lim b).2 hb.1, (paint_zero h2.lim b).2 hb.1, hb.2⟩
end Go.Proofs.YtlfaogkdghnmcaaGreat
