/- Of the texts Bld, TpM, LopH: what this claim reaches. -/
import Derived.Great.BuildSlice
import Derived.Lib.SliceRun
import Derived.Test.YtidonhndeohdlaaGreatDoorTt28
import Derived.Test.YtidonhndeohdlaaGreatDoorTt11
import Derived.Test.YtidonhndeohdlaaGreatDoorTtPlnE
set_option linter.unusedVariables false
set_option linter.unusedSimpArgs false
namespace Go.Proofs.YtidonhndeohdlaaGreatDoor
open Go.RowKit
theorem wpList_build2 {P : Program} {ops : Array Oper} {rest : List Oper} {o : Oper} {a : Act} {w : World} {Q : Exit → Act → World → Prop} (hg : o.guard = none) (t : TypeId) (parts : Array (Nat × Operand)) (ho : o.op = .build t parts) (l : List (Nat × Value)) (hp : parts.toList.map (fun y => (y.1, a.eval y.2)) = l)
    (cells : Array Value) (h : P.built t l = some cells) (k : wpList P ops Q rest (a.put o.dst (.agg cells)) w) : wpList P ops Q (o :: rest) a w :=
  wpList_plain hg fun _ hK => by
    subst hp
    rw [← Array.toList_map] at h
    unfold Oper.wp execOp
    simp only [ho, Sem.run_bind, Sem.run_pure, run_build w t _ cells h, Result.andThen_ok]
    exact hK _ _ k
theorem wpList_bslice2 {P : Program} {ops : Array Oper} {rest : List Oper} {o : Oper} {a : Act} {w : World} {Q : Exit → Act → World → Prop} (hg : o.guard = none) (t e : TypeId) (len : Nat) (parts : Array (Nat × Operand)) (ho : o.op = .buildSlice t len parts) (l : List (Nat × Value)) (hp : parts.toList.map (fun y => (y.1, a.eval y.2)) = l)
    (cells : Array Value) (ie : TypeInfo) (z : Value) (hu : P.underlying t = some (.slice e)) (hie : P.info? e = some ie) (hz : ie.zero = some z) (hsmall : ¬ len * ie.size > 2 ^ 24) (hpos : ¬ len * ie.size = 0)
    (hf : Instr.fill (fun i => some (i * ie.size, ie.size)) ((Array.range (len * ie.size)).map (z.cells[· % z.cells.size]!)) l = some cells)
    (k : wpList P ops Q rest (a.put o.dst (.slice (some ⟨w.heap.size, 0, none⟩) len len)) (w.alloc (.cells cells e))) : wpList P ops Q (o :: rest) a w := by
  subst hp
  rw [← Array.toList_map] at hf
  exact wpList_buildSlice hg t e len parts ho cells ie z hu hie hz hsmall hpos hf k
theorem _root_.Tide.At.row_set {w : World} {g : Nat} {t : TypeId} {old : Array Value} (h : Tide.At w g t old) (cs : Array Value) : Tide.At (w.setRow g cs) g t cs := setRow_heap w g old cs t (0, 0) h
theorem _root_.Tide.At.row_other {w : World} {g k : Nat} {t : TypeId} {cs : Array Value} (h : Tide.At w g t cs) (hk : g ≠ k) (cs' : Array Value) : Tide.At (w.setRow k cs') g t cs := (setRow_other w k g cs' hk).trans h
theorem _root_.Go.RowKit.Below.setRow {B : Nat} {a w : World} (h : Below B a w) {g : Nat} (hg : B ≤ g) (cs : Array Value) : Below B a (w.setRow g cs) :=
  ⟨h.os, h.tape, h.output, by rw [setRow_size]; exact h.size, fun k hk => (setRow_other w g k cs (by omega)).trans (h.block k hk)⟩
def plainT : Trg := ⟨2, 10, 0, ⟨0, 0, 0, 0, 0, false, false⟩, ⟨0, 0, 0, 0, 0, false, false⟩⟩
def plainP : Pln := ⟨⟨#[112]⟩, 0, 9, 2, 6, 0, 0, 0, 0, ⟨0, 0, 0, 0⟩, ⟨0, 0, 0, 0⟩, [plainT]⟩
theorem plain_trg : (Tryz.prog.info? 65).map (fun i => (i.zero, i.size)) = some (some (.agg #[.int .i64 0, .int .i64 0, .int .i64 0, .int .u64 0, .int .u64 0, .int .u64 0, .int .u64 0, .int .u64 0, .bool false, .bool false, .int .u64 0, .int .u64 0, .int .u64 0, .int .u64 0, .int .u64 0, .bool false, .bool false]), 17) := by kernel_rfl
theorem info2 {i : Option TypeInfo} {z : Option Value} {s : Nat} (h : i.map (fun i => (i.zero, i.size)) = some (z, s)) : ∃ j, i = some j ∧ j.zero = z ∧ j.size = s := by
  cases i with
  | none => cases h
  | some j => simp only [Option.map_some, Option.some.injEq, Prod.mk.injEq] at h; exact ⟨j, rfl, h.1, h.2⟩
def TC10 : Array Value := #[.int .i64 2, .int .i64 10, .int .i64 0, .int .u64 0, .int .u64 0, .int .u64 0, .int .u64 0, .int .u64 0, .bool false, .bool false, .int .u64 0, .int .u64 0, .int .u64 0, .int .u64 0, .int .u64 0, .bool false, .bool false]
theorem plain_built : Tryz.prog.built 65 [(0, .int .i64 2), (1, .int .i64 10)] = some TC10 := by kernel_rfl
theorem plain_fill : Instr.fill (fun i => some (i * 17, 17)) ((Array.range (1 * 17)).map ((Value.agg #[.int .i64 0, .int .i64 0, .int .i64 0, .int .u64 0, .int .u64 0, .int .u64 0, .int .u64 0, .int .u64 0, .bool false, .bool false, .int .u64 0, .int .u64 0, .int .u64 0, .int .u64 0, .int .u64 0, .bool false, .bool false]).cells[· % (Value.agg #[.int .i64 0, .int .i64 0, .int .i64 0, .int .u64 0, .int .u64 0, .int .u64 0, .int .u64 0, .int .u64 0, .bool false, .bool false, .int .u64 0, .int .u64 0, .int .u64 0, .int .u64 0, .int .u64 0, .bool false, .bool false]).cells.size]!)) [(0, .agg TC10)] = some TC10 := by kernel_rfl
theorem plain_plan (b : Nat) : Tryz.prog.built 26 [(0, .string ⟨#[112]⟩), (2, .int .i64 9), (3, .int .i64 2), (4, .int .i64 6), (11, .slice (some ⟨b, 0, none⟩) 1 1)] = some (plnC plainP (.slice (some ⟨b, 0, none⟩) 1 1)) := by kernel_rfl
open Go.RowKit
def stepW (m : Wo) (r : List Int) : Wo := doW m (r.getD 0 0) (r.getD 1 0) (r.getD 2 0)
def playW (m : Wo) (l : List (List Int)) : Wo := l.foldl stepW m
theorem play_snoc {m : Wo} {l : List (List Int)} {k : Nat} {r : List Int} (h : l[k]? = some r) : playW m (l.take (k + 1)) = stepW (playW m (l.take k)) r := by
  rw [Tide.take_of_get h]; unfold playW; rw [List.foldl_append]; rfl
theorem ok_play {m : Wo} {j : Nat} (h : m.ok j) (l : List (List Int)) : (playW m l).ok (j + 1000 * l.length) := by
  induction l generalizing m j with
  | nil => exact h
  | cons r l ih =>
    have := ih (ok_do h (r.getD 0 0) (r.getD 1 0) (r.getD 2 0))
    rw [show j + 1000 * (r :: l).length = j + 1000 + 1000 * l.length by simp; omega]
    exact this
def saidR (m : Wo) : Nat → Wo
  | 0 => m
  | k + 1 => doW (doW (saidR m k) 5 0 5) 6 0 ((k : Int) + 1)
def said0 : Wo := doW (doW (newWo plainP 1 2 0) 4 0 25) 1 0 1
theorem said_nums : doE (newWo plainP 1 2 0) 4 0 25 = 0 ∧ doE (doW (newWo plainP 1 2 0) 4 0 25) 1 0 1 = 0 ∧ said0.target = 3 ∧ said0.f.length = 3 ∧
    ((List.range 25).all fun k => decide (doE (saidR said0 k) 5 0 5 = 0) && decide (doE (doW (saidR said0 k) 5 0 5) 6 0 ((k : Int) + 1) = 0)) = true ∧ (doW (saidR said0 25) 1 0 9).target = 0 ∧ (doW (saidR said0 25) 1 0 9).f.length = 0 := by decide +kernel
theorem ok_saidR {m : Wo} {j : Nat} (h : m.ok j) : ∀ k, (saidR m k).ok (j + 2000 * k)
  | 0 => h
  | k + 1 => by
    have h1 := ok_do (ok_do (ok_saidR h k) 5 0 5) 6 0 ((k : Int) + 1)
    exact h1.up (by omega)
theorem plain_ok : (newWo plainP 1 2 0).ok 0 := ok_new (by decide +kernel) (by
  intro t ht
  have e : t = plainT := by simpa [plainP] using ht
  subst e
  exact ⟨by unfold Cr.fits plainT; decide, by unfold Cr.fits plainT; decide⟩) (by omega) (by omega) (by omega)
theorem said_facts : ∃ (m1 m2 mz : Wo) (r : Nat → Wo), newWo plainP 1 2 0 = m1 ∧ doE m1 4 0 25 = 0 ∧ doW m1 4 0 25 = m2 ∧ doE m2 1 0 1 = 0 ∧ doW m2 1 0 1 = r 0 ∧ (r 0).target = 3 ∧ (r 0).f.length = 3 ∧
    (∀ k : Nat, k < 25 → doE (r k) 5 0 5 = 0 ∧ doE (doW (r k) 5 0 5) 6 0 ((k : Int) + 1) = 0 ∧ doW (doW (r k) 5 0 5) 6 0 ((k : Int) + 1) = r (k + 1)) ∧ doW (r 25) 1 0 9 = mz ∧ mz.target = 0 ∧ mz.f.length = 0 ∧ m1.ok 0 ∧ m2.ok 1000 ∧ (∀ k, k ≤ 25 → (r k).ok 60000) := by
  obtain ⟨h1, h2, h3, h4, h5, h6, h7⟩ := said_nums
  refine ⟨_, _, _, saidR said0, rfl, h1, rfl, h2, rfl, h3, h4, fun k hk => ?_, rfl, h6, h7, plain_ok, ok_do plain_ok _ _ _, fun k hk => (ok_saidR (ok_do (ok_do plain_ok 4 0 25) 1 0 1) k).up (by omega)⟩
  rw [List.all_eq_true] at h5
  have := h5 k (List.mem_range.2 hk)
  rw [Bool.and_eq_true, decide_eq_true_eq, decide_eq_true_eq] at this
  exact ⟨this.1, this.2, rfl⟩
open Go.RowKit
theorem trg_info : (Tryz.prog.info? 65).map (fun i => (i.zero, i.size, i.bytes)) = some (some (.agg #[.int .i64 0, .int .i64 0, .int .i64 0, .int .u64 0, .int .u64 0, .int .u64 0, .int .u64 0, .int .u64 0, .bool false, .bool false, .int .u64 0, .int .u64 0, .int .u64 0, .int .u64 0, .int .u64 0, .bool false, .bool false]), 17, 120) := by kernel_rfl
theorem trg_one {l : List Trg} : ∀ u ∈ l.flatMap Trg.enc, u.oneCell' = true := by
  intro u hu
  obtain ⟨p, _, hp⟩ := List.mem_flatMap.1 hu
  simp only [Trg.enc, List.mem_cons, List.not_mem_nil, or_false] at hp
  rcases hp with h | h | h | h | h | h | h | h | h | h | h | h | h | h | h | h | h <;> subst h <;> rfl
theorem list_cells {α : Type} {enc : α → List Value} {k : Nat} (hk : ∀ a, (enc a).length = k) (h0 : 0 < k) {w : World} {b off n cap : Nat} {l : List α} (hl : 0 < l.length) (h : Tide.ListIn w k enc (.slice (some ⟨b, off, none⟩) n cap) l) : ∀ (j : Nat) (u : Value), (l.flatMap enc)[j]? = some u → w.cell? ⟨b, off + j, none⟩ = some u := by
  obtain ⟨A, c, e, hA⟩ := h
  obtain ⟨b', off', e1, _, h2⟩ := hA hl
  cases e
  cases e1
  intro j u hu
  have hj : j < l.length * k := by rw [← Tide.flat_length hk]; exact Tide.get_lt hu
  have hi : j / k < l.length := (Nat.div_lt_iff_lt_mul h0).2 hj
  obtain ⟨a, ha⟩ := Tide.get_some l hi
  have hm : j % k < (enc a).length := by rw [hk]; exact Nat.mod_lt _ h0
  obtain ⟨v, hv⟩ := Tide.get_some (enc a) hm
  have e2 := Tide.flat_get hk ha hv
  rw [show j / k * k + j % k = j from Nat.div_add_mod' j k, hu] at e2
  cases e2
  have := h2 (j / k) a (j % k) _ ha hv
  rwa [Nat.add_assoc, show j / k * k + j % k = j from Nat.div_add_mod' j k] at this
def TrgClone (w : World) (ts : List Trg) (e : Ending) (w' : World) : Prop := ∃ v', e = .returned v' ∧ Tide.OwnRow (fun b => w.heap.size ≤ b) w' 65 17 v' ts.length (ts.flatMap Trg.enc) ∧ Below w.heap.size w w'
set_option maxRecDepth 100000 in
set_option maxHeartbeats 4000000 in
theorem trgClone (w : World) (A : Option Addr) (cap : Nat) (ts : List Trg) (h : Tide.ListIn w 17 Trg.enc (.slice A ts.length cap) ts) (hn : ts.length ≤ 100000000) :
    Calls Tryz.prog 59 #[.slice A ts.length cap] w (TrgClone w ts) := by
  cases A with
  | none =>
    have hz : ts = [] := by
      rcases Nat.eq_zero_or_pos ts.length with h0 | h0
      · exact List.length_eq_zero_iff.1 h0
      · obtain ⟨A1, c1, e, hA⟩ := h
        cases e
        obtain ⟨_, _, e1, _⟩ := hA h0
        cases e1
    have HF := Lib.hid (show TrgClone w ts (.returned (.slice none 0 0)) w from ⟨_, rfl, by rw [hz]; exact Tide.OwnRow.nil _ _ _ _, Below.refl _ _⟩)
    have hq := fun w => Lib.run_eql_slice_nil (P := Tryz.prog) w 24 65 none ts.length cap 0 0 Tryz.underlying24
    clear h hz
    go_enter Tryz.func59, Tryz.ntmps59
    go_wp2_with fail
    go_ret
    exact HF.out
  | some a =>
    have hc : ∀ (j : Nat) (u : Value), (ts.flatMap Trg.enc)[j]? = some u → w.cell? (a.add j) = some u ∧ (a.add j).block < w.heap.size := by
      intro j u hu
      have hj := Tide.get_lt hu
      rw [Tide.flat_length Trg.enc_length] at hj
      have h0 : 0 < ts.length := by
        rcases Nat.eq_zero_or_pos ts.length with h0 | h0
        · rw [h0] at hj; omega
        · exact h0
      obtain ⟨A1, c1, e, hA⟩ := id h
      cases e
      obtain ⟨b, off, e1, hlt, _⟩ := hA h0
      cases e1
      rw [Addr.add_lit]
      exact ⟨list_cells Trg.enc_length (by omega) h0 h j u hu, hlt⟩
    have hq := fun w => Lib.run_eql_slice_nil (P := Tryz.prog) w 24 65 (some a) ts.length cap 0 0 Tryz.underlying24
    obtain ⟨i0, hi0, hz0, hz1, hz2⟩ := info_parts trg_info
    have HC := Lib.hid hc; have HL := Lib.hid (Tide.flat_length Trg.enc_length ts); have H1 := Lib.hid (trg_one (l := ts))
    have hown : (w.alloc (.cells #[] 65)).ownsRow w.heap.size 65 17 (.slice (some ⟨w.heap.size, 0, none⟩) 0 0) 0 [] := World.ownsRow_made w #[] 0 (Nat.le_refl _) (Nat.zero_le _) rfl
    have HO := Lib.hid hown
    have hm3 := Lib.hid (show 0 + ts.length ≤ maxLen by simp only [maxLen]; omega)
    have hm4 := Lib.hid (show (0 + ts.length) * 120 ≤ 140737488355328 by omega)
    clear h hown hn hc
    go_enter Tryz.func59, Tryz.ntmps59
    go_wp2_with (at_builtin; refine wpList_append_own _ (by rfl) (.tmp 5) (.tmp 6) 24 (by rfl) w.heap.size 65 i0 (.agg #[.int .i64 0, .int .i64 0, .int .i64 0, .int .u64 0, .int .u64 0, .int .u64 0, .int .u64 0, .int .u64 0, .bool false, .bool false, .int .u64 0, .int .u64 0, .int .u64 0, .int .u64 0, .int .u64 0, .bool false, .bool false]) 17 120 Tryz.underlying24 hi0 hz0 hz1 hz2 rfl (by decide) _ _ _ rfl HO.out a ts.length cap (ts.flatMap Trg.enc) rfl HL.out ?c1 H1.out hm3.out hm4.out ?c5 ?_)
    case c1 => exact fun j u hu => (((Below.refl w.heap.size w).alloc (Nat.le_refl _) (.cells #[] 65)).cell (p := a.add j) (HC.out j u hu).2).trans (HC.out j u hu).1
    case c5 => simp
    intro v' w1 hown1 hg1 _
    have HF := Lib.hid (show TrgClone w ts (.returned v') w1 from by
      refine ⟨v', rfl, ?_, (((Below.refl _ w).alloc (Nat.le_refl _) _)).grown hg1 (by simp) (fun k hk => by simp [Value.ownBlock] at hk; omega)⟩
      exact Tide.OwnRow.of_owns hown1 (Tide.own_ge hown1))
    clear hown1 hg1
    go_wp2_with fail
    go_ret
    exact HF.out
def NewLopPost (T TS TM : TypeId) (w : World) (p : Pln) (e : Ending) (w' : World) : Prop :=
  ∃ (g gs : Nat) (vt vf : Value) (S1 S2 : Nat → Prop), e = .returned (.tuple #[.pointer (some ⟨g, 0, none⟩), .int .i64 0]) ∧ LopAt T TS TM S1 S2 w' g gs vt vf (.slice none 0 0) (.slice none 0 0) (newLp p) ∧ (∀ b, S1 b → w.heap.size ≤ b) ∧ (∀ b, S2 b → w.heap.size ≤ b) ∧ Below w.heap.size w w'
theorem lop_made {T TS TM : TypeId} {w wb : World} {p : Pln} {vt vf : Value} {gs : Nat} {S2 : Nat → Prop} (hT1 : 65 ≠ T) (ht : Tide.OwnRow (fun b => w.heap.size ≤ b) wb 65 17 vt p.trigs.length (p.trigs.flatMap Trg.enc))
    (hf : Tide.OwnRow (fun b => w.heap.size ≤ b) wb 3 1 vf p.trigs.length ((List.replicate p.trigs.length 0).map (Value.int .i64))) (hs : StbAt TS TM S2 wb gs (Tide.newStb p.up p.down) (.slice none 0 0) (.slice none 0 0))
    (h2 : ∀ b, S2 b → w.heap.size ≤ b) (hvt : ∀ b, vt.ownBlock = some b → ¬ S2 b) (hvf : ∀ b, vf.ownBlock = some b → ¬ S2 b) (hb : Below w.heap.size w wb) :
    NewLopPost T TS TM w p (.returned (.tuple #[.pointer (some ⟨wb.heap.size, 0, none⟩), .int .i64 0])) (wb.alloc (.cells (lopCells (newLp p) gs vt vf) T)) := by
  refine ⟨_, gs, vt, vf, (fun b => b = wb.heap.size ∨ vt.ownBlock = some b ∨ vf.ownBlock = some b), S2, rfl, ⟨Tide.At.made _ _ _, ?_, ?_, hs.alloc _, .inl rfl, ?_, ?_⟩, ?_, h2, hb.alloc hb.size _⟩
  · exact Tide.OwnRow.of_owns (ht.alloc _).owns fun b hb => .inr (.inl hb)
  · show Tide.OwnRow _ _ _ 1 vf (List.replicate p.trigs.length 0).length ((List.replicate p.trigs.length 0).map (Value.int .i64))
    rw [List.length_replicate]
    exact Tide.OwnRow.of_owns (hf.alloc _).owns fun b hb => .inr (.inr hb)
  · intro b hb hb2
    rcases hb with rfl | hb | hb
    · exact Nat.lt_irrefl _ (hs.lim _ hb2)
    · exact hvt b hb hb2
    · exact hvf b hb hb2
  · intro b hb
    simp only [World.size_alloc]
    rcases hb with rfl | hb | hb
    · omega
    · have := (ht.block b hb).2; omega
    · have := (hf.block b hb).2; omega
  · intro b hb3
    rcases hb3 with rfl | hb3 | hb3
    · exact hb.size
    · exact (ht.block b hb3).1
    · exact (hf.block b hb3).1
set_option maxRecDepth 100000 in
set_option maxHeartbeats 12800000 in
theorem lopNewNo (p : Pln) (A : Option Addr) (cap : Nat) (w : World) (ht : Tide.ListIn w 17 Trg.enc (.slice A p.trigs.length cap) p.trigs) (hf : ∀ t ∈ p.trigs, t.fits) (hn : p.name.size ≤ 9223372036854775807) (hl : p.trigs.length ≤ 9223372036854775807) (hE : planE p ≠ 0) :
    Calls Tryz.prog 25 #[plnV p (.slice A p.trigs.length cap)] w fun e w' => e = .returned (.tuple #[.pointer none, .int .i64 (planE p)]) ∧ Below w.heap.size w w' := by
  obtain ⟨name, mn, mx, poll, cool, tol, back, after, shift, ⟨u0, u1, u2, u3⟩, ⟨d0, d1, d2, d3⟩, ts⟩ := p
  unfold plnV
  simp only at ht hf hn hl hE ⊢
  have HB := Lib.hid ((Below.refl w.heap.size w).alloc (Nat.le_refl _) (.cells (plnC ⟨name, mn, mx, poll, cool, tol, back, after, shift, ⟨u0, u1, u2, u3⟩, ⟨d0, d1, d2, d3⟩, ts⟩ (.slice A ts.length cap)) 26))
  have HX := Lib.hid (Tide.At.made w 26 (plnC ⟨name, mn, mx, poll, cool, tol, back, after, shift, ⟨u0, u1, u2, u3⟩, ⟨d0, d1, d2, d3⟩, ts⟩ (.slice A ts.length cap)))
  have HC := Lib.hid (fun (W : World) (hb : Below w.heap.size w W) => planCheck name mn mx poll cool tol back after shift u0 u1 u2 u3 d0 d1 d2 d3 A cap ts W (ht.below hb (Nat.le_refl _)) hf hn hl)
  unfold plnC at HB HX
  have HE := Lib.hid hE
  obtain ⟨E, hEE⟩ : ∃ E, planE ⟨name, mn, mx, poll, cool, tol, back, after, shift, ⟨u0, u1, u2, u3⟩, ⟨d0, d1, d2, d3⟩, ts⟩ = E := ⟨_, rfl⟩
  rw [hEE] at HC HE ⊢
  have hb1 : (E != 0) = true := by simpa using HE.out
  clear ht hf hn hl hE hEE
  go_enter Tryz.func25, Tryz.ntmps25
  go_upto_region 1 with fail
  simp only at HB HX
  have HCx := Lib.hid (HC.out _ HB.out)
  generalize w.alloc (.cells #[.string name, .int .i64 mn, .int .i64 mx, .int .i64 poll, .int .i64 cool, .int .i64 tol, .int .i64 back, .int .i64 after, .int .i64 shift, .int .i64 u0, .int .i64 u1, .int .i64 u2, .int .i64 u3, .int .i64 d0, .int .i64 d1, .int .i64 d2, .int .i64 d3, .slice A ts.length cap] 26) = W at HB HX HCx ⊢
  clear HC
  go_wp2_with (refine wpList_load_row rfl 26 (.tmp 1) rfl w.heap.size rfl 26 _ (0, 0) _ HX.out Tryz.underlying26 rfl (by kernel_rfl) ?_)
  refine HCx.out.mono ?_
  rintro e w1 ⟨rfl, hb3⟩
  have HB3 := Lib.hid (HB.out.trans (hb3.mono HB.out.size))
  clear hb3 HCx
  go_wp2_with fail
  go_ret2
  exact ⟨rfl, HB3.out⟩
end Go.Proofs.YtidonhndeohdlaaGreatDoor
