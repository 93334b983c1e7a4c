/- A loop stays right: plain laws. slices.Clone at triggers; the contract of loop.New. The contract of loop.New at a plan that is right. Structs and slices that are built: the kit's laws, with little for the kernel to reckon. -/
import Derived.Test.YtcnoapogeohmkaaZLopB
import Derived.Test.YtcnoapogeohmkaaPlnE
import Derived.Lib.SliceRun
import Derived.Deep.RegionHeld3
import Derived.Test.YtcnoapogeohmkaaZPln
import Derived.Great.BuildSlice

set_option linter.unusedVariables false
set_option linter.unusedSimpArgs false
namespace Go.Proofs.Ytcnoapogeohmkaa
open Go.RowKit
set_option linter.unusedVariables false
theorem Stb.ok_up {s : Tide.Stb} {j : Nat} (h : s.ok j) : s.ok (j + 1) := ⟨h.up, h.down, h.last0, h.last1, h.wan, h.mov, h.wsort, h.msort, by have := h.wlen; omega, by have := h.mlen; omega⟩
theorem newLp_ok {p : Pln} (h : planE p = 0) (hf : ∀ t ∈ p.trigs, t.fits) : (newLp p).ok 0 :=
  ⟨h, hf, newStb_ok p.up p.down, by show (0 : Int) ≤ 0; omega, by show (0 : Int) ≤ 0; omega, by show (0 : Int) ≤ _; omega, by show (0 : Int) ≤ 0; omega, by show (0 : Int) ≤ 0; omega, by show (List.replicate _ _).length = _; simp [newLp], by
    intro f hf
    have := List.eq_of_mem_replicate (show f ∈ List.replicate p.trigs.length 0 from hf)
    subst this; omega, by show (-1 : Int) ≤ -1 ∧ (-1 : Int) ≤ 50; omega⟩
theorem pause_ok {l : Lp} {j : Nat} (h : l.ok j) (n : Int) : (pauseL l n).ok j := by
  unfold pauseL
  split
  · exact h
  · exact ⟨h.plan, h.fits, h.st, h.sl, h.last0, h.last1, h.need0, h.need1, h.many, h.fail, by show -1 ≤ n ∧ n ≤ 50; omega⟩
theorem lookOk_iff {l : Lp} {now sec have0 : Int} {n : Nat} : lookOk l now sec have0 n = true ↔ l.last ≤ now ∧ now ≤ 1099511627776 ∧ -100000000000 ≤ sec ∧ sec ≤ 100000000000 ∧ 0 ≤ have0 ∧ have0 ≤ 50 ∧ n = l.p.trigs.length := by
  unfold lookOk; simp only [Bool.and_eq_true, decide_eq_true_eq]
theorem Lp.ok_up {l : Lp} {j : Nat} (h : l.ok j) : l.ok (j + 1) :=
  ⟨h.plan, h.fits, Stb.ok_up h.st, h.sl, h.last0, h.last1, h.need0, h.need1, h.many, fun f hf => by have := h.fail f hf; omega, h.paus⟩
theorem seen_ok {l : Lp} {j : Nat} {now : Int} {rs : List Rd} (h : l.ok j) (h0 : l.last ≤ now) (h1 : now ≤ 1099511627776) (hn : rs.length = l.p.trigs.length) : (l.seen now rs).ok (j + 1) :=
  ⟨h.plan, h.fits, Stb.ok_up h.st, by show l.s.last ≤ now; have := h.sl; omega, by show 0 ≤ now; have := h.last0; omega, h1, h.need0, by show l.needed ≤ now; have := h.need1; omega, failsL_length rfl hn h.many, failsL_bd h.fail, h.paus⟩
theorem settleS_last {s : Tide.Stb} {now have0 want : Int} (h : s.last ≤ now) : (Tide.settleS s now have0 want).last ≤ now := by
  unfold Tide.settleS
  split
  · split
    · exact Int.le_refl _
    · exact Int.le_refl _
  · exact h
theorem look_ok {l : Lp} {j : Nat} {now sec have0 : Int} {rs : List Rd} {busy : Bool} (h : l.ok j) : (lookL l now sec have0 rs busy).ok (j + 1) := by
  unfold lookL
  cases hk : lookOk l now sec have0 rs.length
  · rw [if_pos rfl]; exact Lp.ok_up h
  · obtain ⟨h0, h1, _, _, _, _, hn⟩ := lookOk_iff.1 hk
    rw [if_neg (by simp)]
    have hs := seen_ok (rs := rs) h h0 h1 hn
    split
    · exact hs
    · generalize (l.seen now rs).wish now sec have0 rs busy = x
      have hst := settle_ok (now := now) (have0 := have0) (want := x) h.st
      have hsl := settleS_last (have0 := have0) (want := x) (show l.s.last ≤ now by have := h.sl; omega)
      have hn0 : 0 ≤ now := by have := h.last0; omega
      cases ((l.seen now rs).told sec have0 rs busy).2
      · exact ⟨hs.plan, hs.fits, hst, hsl, hs.last0, hs.last1, hs.need0, hs.need1, hs.many, hs.fail, hs.paus⟩
      · exact ⟨hs.plan, hs.fits, hst, hsl, hs.last0, hs.last1, hn0, Int.le_refl _, hs.many, hs.fail, hs.paus⟩
theorem marked_p (l : Lp) (now : Int) (b : Bool) : (l.marked now b).p = l.p := by cases b <;> rfl
theorem lookL_p (l : Lp) (now sec have0 : Int) (rs : List Rd) (busy : Bool) : (lookL l now sec have0 rs busy).p = l.p := by
  unfold lookL
  split
  · rfl
  · split
    · rfl
    · exact marked_p _ _ _
theorem pauseL_p (l : Lp) (n : Int) : (pauseL l n).p = l.p := by unfold pauseL; split <;> rfl
end Go.Proofs.Ytcnoapogeohmkaa


namespace Go.Proofs.Ytcnoapogeohmkaa
open Go.RowKit
set_option linter.unusedVariables false
theorem trg_info : (Try.prog.info? 65).map (fun i => (i.zero, i.size, i.bytes)) = some (some (.agg #[.int .i64 0, .int .i64 0, .int .i64 0, .int .u64 0, .int .u64 0, .int .u64 0, .int .u64 0, .int .u64 0, .bool false, .bool false, .int .u64 0, .int .u64 0, .int .u64 0, .int .u64 0, .int .u64 0, .bool false, .bool false]), 17, 120) := by kernel_rfl
theorem trg_one {l : List Trg} : ∀ u ∈ l.flatMap Trg.enc, u.oneCell' = true := by
  intro u hu
  obtain ⟨p, _, hp⟩ := List.mem_flatMap.1 hu
  simp only [Trg.enc, List.mem_cons, List.not_mem_nil, or_false] at hp
  rcases hp with h | h | h | h | h | h | h | h | h | h | h | h | h | h | h | h | h <;> subst h <;> rfl
/-- the cells of a list of structs, one after the other -/
theorem list_cells {α : Type} {enc : α → List Value} {k : Nat} (hk : ∀ a, (enc a).length = k) (h0 : 0 < k) {w : World} {b off n cap : Nat} {l : List α} (hl : 0 < l.length) (h : Tide.ListIn w k enc (.slice (some ⟨b, off, none⟩) n cap) l) : ∀ (j : Nat) (u : Value), (l.flatMap enc)[j]? = some u → w.cell? ⟨b, off + j, none⟩ = some u := by
  obtain ⟨A, c, e, hA⟩ := h
  obtain ⟨b', off', e1, _, h2⟩ := hA hl
  cases e
  cases e1
  intro j u hu
  have hj : j < l.length * k := by rw [← Tide.flat_length hk]; exact Tide.get_lt hu
  have hi : j / k < l.length := (Nat.div_lt_iff_lt_mul h0).2 hj
  obtain ⟨a, ha⟩ := Tide.get_some l hi
  have hm : j % k < (enc a).length := by rw [hk]; exact Nat.mod_lt _ h0
  obtain ⟨v, hv⟩ := Tide.get_some (enc a) hm
  have e2 := Tide.flat_get hk ha hv
  rw [show j / k * k + j % k = j from Nat.div_add_mod' j k, hu] at e2
  cases e2
  have := h2 (j / k) a (j % k) _ ha hv
  rwa [Nat.add_assoc, show j / k * k + j % k = j from Nat.div_add_mod' j k] at this
def TrgClone (w : World) (ts : List Trg) (e : Ending) (w' : World) : Prop := ∃ v', e = .returned v' ∧ Tide.OwnRow (fun b => w.heap.size ≤ b) w' 65 17 v' ts.length (ts.flatMap Trg.enc) ∧ Below w.heap.size w w'
set_option maxRecDepth 100000 in
set_option maxHeartbeats 4000000 in
theorem trgClone (w : World) (A : Option Addr) (cap : Nat) (ts : List Trg) (h : Tide.ListIn w 17 Trg.enc (.slice A ts.length cap) ts) (hn : ts.length ≤ 100000000) :
    Calls Try.prog 27 #[.slice A ts.length cap] w (TrgClone w ts) := by
  cases A with
  | none =>
    have hz : ts = [] := by
      rcases Nat.eq_zero_or_pos ts.length with h0 | h0
      · exact List.length_eq_zero_iff.1 h0
      · obtain ⟨A1, c1, e, hA⟩ := h
        cases e
        obtain ⟨_, _, e1, _⟩ := hA h0
        cases e1
    have HF := Lib.hid (show TrgClone w ts (.returned (.slice none 0 0)) w from ⟨_, rfl, by rw [hz]; exact Tide.OwnRow.nil _ _ _ _, Below.refl _ _⟩)
    have hq := fun w => Lib.run_eql_slice_nil (P := Try.prog) w 24 65 none ts.length cap 0 0 Try.underlying24
    clear h hz
    go_enter Try.func27, Try.ntmps27
    go_wp2_with fail
    go_ret
    exact HF.out
  | some a =>
    have hc : ∀ (j : Nat) (u : Value), (ts.flatMap Trg.enc)[j]? = some u → w.cell? (a.add j) = some u ∧ (a.add j).block < w.heap.size := by
      intro j u hu
      have hj := Tide.get_lt hu
      rw [Tide.flat_length Trg.enc_length] at hj
      have h0 : 0 < ts.length := by
        rcases Nat.eq_zero_or_pos ts.length with h0 | h0
        · rw [h0] at hj; omega
        · exact h0
      obtain ⟨A1, c1, e, hA⟩ := id h
      cases e
      obtain ⟨b, off, e1, hlt, _⟩ := hA h0
      cases e1
      rw [Addr.add_lit]
      exact ⟨list_cells Trg.enc_length (by omega) h0 h j u hu, hlt⟩
    have hq := fun w => Lib.run_eql_slice_nil (P := Try.prog) w 24 65 (some a) ts.length cap 0 0 Try.underlying24
    obtain ⟨i0, hi0, hz0, hz1, hz2⟩ := info_parts trg_info
    have HC := Lib.hid hc; have HL := Lib.hid (Tide.flat_length Trg.enc_length ts); have H1 := Lib.hid (trg_one (l := ts))
    have hown : (w.alloc (.cells #[] 65)).ownsRow w.heap.size 65 17 (.slice (some ⟨w.heap.size, 0, none⟩) 0 0) 0 [] := World.ownsRow_made w #[] 0 (Nat.le_refl _) (Nat.zero_le _) rfl
    have HO := Lib.hid hown
    have hm3 := Lib.hid (show 0 + ts.length ≤ maxLen by simp only [maxLen]; omega)
    have hm4 := Lib.hid (show (0 + ts.length) * 120 ≤ 140737488355328 by omega)
    clear h hown hn hc
    go_enter Try.func27, Try.ntmps27
    go_wp2_with (at_builtin; refine wpList_append_own _ (by rfl) (.tmp 5) (.tmp 6) 24 (by rfl) w.heap.size 65 i0 (.agg #[.int .i64 0, .int .i64 0, .int .i64 0, .int .u64 0, .int .u64 0, .int .u64 0, .int .u64 0, .int .u64 0, .bool false, .bool false, .int .u64 0, .int .u64 0, .int .u64 0, .int .u64 0, .int .u64 0, .bool false, .bool false]) 17 120 Try.underlying24 hi0 hz0 hz1 hz2 rfl (by decide) _ _ _ rfl HO.out a ts.length cap (ts.flatMap Trg.enc) rfl HL.out ?c1 H1.out hm3.out hm4.out ?c5 ?_)
    case c1 => exact fun j u hu => (((Below.refl w.heap.size w).alloc (Nat.le_refl _) (.cells #[] 65)).cell (p := a.add j) (HC.out j u hu).2).trans (HC.out j u hu).1
    case c5 => simp
    intro v' w1 hown1 hg1 _
    have HF := Lib.hid (show TrgClone w ts (.returned v') w1 from by
      refine ⟨v', rfl, ?_, (((Below.refl _ w).alloc (Nat.le_refl _) _)).grown hg1 (by simp) (fun k hk => by simp [Value.ownBlock] at hk; omega)⟩
      exact Tide.OwnRow.of_owns hown1 (Tide.own_ge hown1))
    clear hown1 hg1
    go_wp2_with fail
    go_ret
    exact HF.out
/-- a loop of the call's own, just made -/
def NewLopPost (T TS TM : TypeId) (w : World) (p : Pln) (e : Ending) (w' : World) : Prop :=
  ∃ (g gs : Nat) (vt vf : Value) (S1 S2 : Nat → Prop), e = .returned (.tuple #[.pointer (some ⟨g, 0, none⟩), .int .i64 0]) ∧ LopAt T TS TM S1 S2 w' g gs vt vf (.slice none 0 0) (.slice none 0 0) (newLp p) ∧ (∀ b, S1 b → w.heap.size ≤ b) ∧ (∀ b, S2 b → w.heap.size ≤ b) ∧ Below w.heap.size w w'
theorem lop_made {T TS TM : TypeId} {w wb : World} {p : Pln} {vt vf : Value} {gs : Nat} {S2 : Nat → Prop} (hT1 : 65 ≠ T) (ht : Tide.OwnRow (fun b => w.heap.size ≤ b) wb 65 17 vt p.trigs.length (p.trigs.flatMap Trg.enc))
    (hf : Tide.OwnRow (fun b => w.heap.size ≤ b) wb 3 1 vf p.trigs.length ((List.replicate p.trigs.length 0).map (Value.int .i64))) (hs : StbAt TS TM S2 wb gs (Tide.newStb p.up p.down) (.slice none 0 0) (.slice none 0 0))
    (h2 : ∀ b, S2 b → w.heap.size ≤ b) (hvt : ∀ b, vt.ownBlock = some b → ¬ S2 b) (hvf : ∀ b, vf.ownBlock = some b → ¬ S2 b) (hb : Below w.heap.size w wb) :
    NewLopPost T TS TM w p (.returned (.tuple #[.pointer (some ⟨wb.heap.size, 0, none⟩), .int .i64 0])) (wb.alloc (.cells (lopCells (newLp p) gs vt vf) T)) := by
  refine ⟨_, gs, vt, vf, (fun b => b = wb.heap.size ∨ vt.ownBlock = some b ∨ vf.ownBlock = some b), S2, rfl, ⟨Tide.At.made _ _ _, ?_, ?_, hs.alloc _, .inl rfl, ?_, ?_⟩, ?_, h2, hb.alloc hb.size _⟩
  · exact Tide.OwnRow.of_owns (ht.alloc _).owns fun b hb => .inr (.inl hb)
  · show Tide.OwnRow _ _ _ 1 vf (List.replicate p.trigs.length 0).length ((List.replicate p.trigs.length 0).map (Value.int .i64))
    rw [List.length_replicate]
    exact Tide.OwnRow.of_owns (hf.alloc _).owns fun b hb => .inr (.inr hb)
  · intro b hb hb2
    rcases hb with rfl | hb | hb
    · exact Nat.lt_irrefl _ (hs.lim _ hb2)
    · exact hvt b hb hb2
    · exact hvf b hb hb2
  · intro b hb
    simp only [World.size_alloc]
    rcases hb with rfl | hb | hb
    · omega
    · have := (ht.block b hb).2; omega
    · have := (hf.block b hb).2; omega
  · intro b hb3
    rcases hb3 with rfl | hb3 | hb3
    · exact hb.size
    · exact (ht.block b hb3).1
    · exact (hf.block b hb3).1
set_option maxRecDepth 100000 in
set_option maxHeartbeats 12800000 in
theorem lopNewNo (p : Pln) (A : Option Addr) (cap : Nat) (w : World) (ht : Tide.ListIn w 17 Trg.enc (.slice A p.trigs.length cap) p.trigs) (hf : ∀ t ∈ p.trigs, t.fits) (hn : p.name.size ≤ 9223372036854775807) (hl : p.trigs.length ≤ 9223372036854775807) (hE : planE p ≠ 0) :
    Calls Try.prog 8 #[plnV p (.slice A p.trigs.length cap)] w fun e w' => e = .returned (.tuple #[.pointer none, .int .i64 (planE p)]) ∧ Below w.heap.size w w' := by
  obtain ⟨name, mn, mx, poll, cool, tol, back, after, shift, ⟨u0, u1, u2, u3⟩, ⟨d0, d1, d2, d3⟩, ts⟩ := p
  unfold plnV
  simp only at ht hf hn hl hE ⊢
  have HB := Lib.hid ((Below.refl w.heap.size w).alloc (Nat.le_refl _) (.cells (plnC ⟨name, mn, mx, poll, cool, tol, back, after, shift, ⟨u0, u1, u2, u3⟩, ⟨d0, d1, d2, d3⟩, ts⟩ (.slice A ts.length cap)) 26))
  have HX := Lib.hid (Tide.At.made w 26 (plnC ⟨name, mn, mx, poll, cool, tol, back, after, shift, ⟨u0, u1, u2, u3⟩, ⟨d0, d1, d2, d3⟩, ts⟩ (.slice A ts.length cap)))
  have HC := Lib.hid (fun (W : World) (hb : Below w.heap.size w W) => planCheck name mn mx poll cool tol back after shift u0 u1 u2 u3 d0 d1 d2 d3 A cap ts W (ht.below hb (Nat.le_refl _)) hf hn hl)
  unfold plnC at HB HX
  have HE := Lib.hid hE
  obtain ⟨E, hEE⟩ : ∃ E, planE ⟨name, mn, mx, poll, cool, tol, back, after, shift, ⟨u0, u1, u2, u3⟩, ⟨d0, d1, d2, d3⟩, ts⟩ = E := ⟨_, rfl⟩
  rw [hEE] at HC HE ⊢
  have hb1 : (E != 0) = true := by simpa using HE.out
  clear ht hf hn hl hE hEE
  go_enter Try.func8, Try.ntmps8
  go_upto_region 1 with fail
  simp only at HB HX
  have HCx := Lib.hid (HC.out _ HB.out)
  generalize w.alloc (.cells #[.string name, .int .i64 mn, .int .i64 mx, .int .i64 poll, .int .i64 cool, .int .i64 tol, .int .i64 back, .int .i64 after, .int .i64 shift, .int .i64 u0, .int .i64 u1, .int .i64 u2, .int .i64 u3, .int .i64 d0, .int .i64 d1, .int .i64 d2, .int .i64 d3, .slice A ts.length cap] 26) = W at HB HX HCx ⊢
  clear HC
  go_wp2_with (refine wpList_load_row rfl 26 (.tmp 1) rfl w.heap.size rfl 26 _ (0, 0) _ HX.out Try.underlying26 rfl (by kernel_rfl) ?_)
  refine HCx.out.mono ?_
  rintro e w1 ⟨rfl, hb3⟩
  have HB3 := Lib.hid (HB.out.trans (hb3.mono HB.out.size))
  clear hb3 HCx
  go_wp2_with fail
  go_ret2
  exact ⟨rfl, HB3.out⟩
end Go.Proofs.Ytcnoapogeohmkaa


namespace Go.Proofs.Ytcnoapogeohmkaa
open Go.RowKit
set_option linter.unusedVariables false
theorem exec_load_row {P : Program} {ev : Operand → Value} {o : Oper} {ty t : TypeId} {x : Operand} {g : Nat} {cs : Array Value} {d : TypeDesc} {W : World} (ho : o.op = .load ty x) (hx : ev x = .pointer (some ⟨g, 0, none⟩)) (hg : W.heap[g]? = some (.cells cs t (0, 0)))
    (hu : P.underlying ty = some d) (hd : (match d with | .struct _ | .array _ _ => true | _ => false) = true) (hi : (P.info? ty).map (·.size) = some cs.size) : (execOp ev o).run P W = .ok (.value (.agg cs)) W := by
  unfold execOp
  simp only [ho, hx, Instr.loadAt, Instr.sureAddr, Sem.run_bind, Sem.run_pure, Result.andThen_ok, run_loadVar_row W g t ty cs (0, 0) d hg hu hd hi]
theorem exec_build {P : Program} {ev : Operand → Value} {o : Oper} {t : TypeId} {parts : Array (Nat × Operand)} {l : List (Nat × Value)} {cells : Array Value} {W : World} (ho : o.op = .build t parts) (hp : parts.toList.map (fun y => (y.1, ev y.2)) = l) (h : P.built t l = some cells) : (execOp ev o).run P W = .ok (.value (.agg cells)) W := by
  subst hp
  rw [← Array.toList_map] at h
  unfold execOp
  simp only [ho, Sem.run_bind, Sem.run_pure, Result.andThen_ok, run_build W t _ cells h]
theorem lop_built (name : ByteArray) (mn mx poll cool tol back after shift u0 u1 u2 u3 d0 d1 d2 d3 : Int) (At : Option Addr) (n capt gs h : Nat) : Try.prog.built 73 [(0, .agg #[.string name, .int .i64 mn, .int .i64 mx, .int .i64 poll, .int .i64 cool, .int .i64 tol, .int .i64 back, .int .i64 after, .int .i64 shift, .int .i64 u0, .int .i64 u1, .int .i64 u2, .int .i64 u3, .int .i64 d0, .int .i64 d1, .int .i64 d2, .int .i64 d3, .slice At n capt]), (1, .pointer (some ⟨gs, 0, none⟩)), (2, .slice (some ⟨h, 0, none⟩) n n), (6, .int .i64 (-1))] = some #[.string name, .int .i64 mn, .int .i64 mx, .int .i64 poll, .int .i64 cool, .int .i64 tol, .int .i64 back, .int .i64 after, .int .i64 shift, .int .i64 u0, .int .i64 u1, .int .i64 u2, .int .i64 u3, .int .i64 d0, .int .i64 d1, .int .i64 d2, .int .i64 d3, .slice At n capt, .pointer (some ⟨gs, 0, none⟩), .slice (some ⟨h, 0, none⟩) n n, .bool false, .int .i64 0, .int .i64 0, .int .i64 (-1)] := by kernel_rfl
theorem lop_info : (Try.prog.info? 3).map (fun i => (i.zero, i.size, i.bytes)) = some (some (.int .i64 0), 1, 8) := by kernel_rfl
theorem lop_zeros (n : Nat) : madeCells #[.int .i64 0] n = Array.replicate n (Value.int .i64 0) := by
  unfold madeCells
  apply Array.ext
  · simp
  · intro i h1 h2
    simp [Nat.mod_one]
theorem lop_make (m : Nat) (h : (m : Int) ≤ 20) : ∀ W : World, (Instr.makeSlice 27 (.int .i64 (m : Int)) (.int .i64 (m : Int))).run Try.prog W = .ok (.slice (some ⟨W.heap.size, 0, none⟩) m m) (W.alloc (.cells (Array.replicate m (Value.int .i64 0)) 3)) := fun W => by
  obtain ⟨i0, hi, hz0, hz1, hz2⟩ := info_parts lop_info
  have := run_make (P := Try.prog) W 27 3 i0 _ Try.underlying27 hi hz0 .i64 .i64 m m (by omega) (by omega) (by rw [hz2]; omega) (by omega)
  rw [Int.toNat_natCast, hz1] at this
  rw [this, Nat.mul_one, ← lop_zeros]
  rfl
theorem lop_zero_row {S : Nat → Prop} (W : World) (n : Nat) (hS : S W.heap.size) (hn : n ≤ 1000000) :
    Tide.OwnRow S (W.alloc (.cells (Array.replicate n (Value.int .i64 0)) 3)) 3 1 (.slice (some ⟨W.heap.size, 0, none⟩) n n) n ((List.replicate n (0 : Int)).map (Value.int .i64)) := by
  refine ⟨by simp, .inr ⟨_, n, rfl, hS, Nat.le_refl _, by simp only [maxLen]; omega, ?_⟩⟩
  have := (Tide.At.made W 3 (Array.replicate n (Value.int .i64 0))).row
  simpa using this
theorem lop_endA {T TS TM : TypeId} {w W5 w6 : World} {p : Pln} {vt : Value} {gs : Nat} (hfew : p.trigs.length ≤ 5) (hb : Below w.heap.size w W5) (ht : Tide.OwnRow (fun b => w.heap.size ≤ b) W5 65 17 vt p.trigs.length (p.trigs.flatMap Trg.enc))
    (hs : StbAt TS TM (Tide.Plus (fun _ => False) W5.drew w6) w6 gs (Tide.newStb p.up p.down) (.slice none 0 0) (.slice none 0 0)) (hb6 : Below W5.drew.heap.size W5.drew w6) (hT : 65 ≠ T := by decide) :
    NewLopPost T TS TM w p (.returned (.tuple #[.pointer (some ⟨w6.heap.size + 1, 0, none⟩), .int .i64 0])) ((w6.alloc (.cells (Array.replicate p.trigs.length (Value.int .i64 0)) 3)).alloc (.cells (lopCells (newLp p) gs vt (.slice (some ⟨w6.heap.size, 0, none⟩) p.trigs.length p.trigs.length)) T)) := by
  have hb7 : Below w.heap.size w w6 := hb.drew.trans (Below.mono hb6 hb.size)
  have hz : W5.heap.size ≤ w6.heap.size := hb6.size
  have ht6 := (Tide.OwnRow.below (w := W5.drew) ht hb6 (Nat.le_refl _)).alloc (.cells (Array.replicate p.trigs.length (Value.int .i64 0)) 3)
  have h := lop_made (T := T) (TS := TS) (TM := TM) (gs := gs) hT ht6 (lop_zero_row w6 p.trigs.length (S := fun b => w.heap.size ≤ b) hb7.size (by omega)) (hs.alloc _) (fun b hb2 => by
      rcases hb2 with hb2 | hb2
      · exact hb2.elim
      · have : W5.heap.size ≤ b := hb2.1
        have := hb.size; omega) (fun b hv hb2 => by
      rcases hb2 with hb2 | hb2
      · exact hb2.elim
      · have : W5.heap.size ≤ b := hb2.1
        have := (ht.block b hv).2; omega) (fun b hv hb2 => by
      simp [Value.ownBlock] at hv
      rcases hb2 with hb2 | hb2
      · exact hb2.elim
      · have := hb2.2; omega) (hb7.alloc hb7.size _)
  rw [show w6.heap.size + 1 = (w6.alloc (.cells (Array.replicate p.trigs.length (Value.int .i64 0)) 3)).heap.size by simp]
  exact h
theorem lop_endB {T TS TM : TypeId} {w W5 w6 : World} {p : Pln} {vt : Value} {gs : Nat} (hfew : p.trigs.length ≤ 5) (hb : Below w.heap.size w W5) (ht : Tide.OwnRow (fun b => w.heap.size ≤ b) W5 65 17 vt p.trigs.length (p.trigs.flatMap Trg.enc))
    (hs : StbAt TS TM (Tide.Plus (fun _ => False) (W5.alloc (.cells (Array.replicate p.trigs.length (Value.int .i64 0)) 3)).drew w6) w6 gs (Tide.newStb p.up p.down) (.slice none 0 0) (.slice none 0 0)) (hb6 : Below (W5.alloc (.cells (Array.replicate p.trigs.length (Value.int .i64 0)) 3)).drew.heap.size (W5.alloc (.cells (Array.replicate p.trigs.length (Value.int .i64 0)) 3)).drew w6) (hT : 65 ≠ T := by decide) :
    NewLopPost T TS TM w p (.returned (.tuple #[.pointer (some ⟨w6.heap.size, 0, none⟩), .int .i64 0])) (w6.alloc (.cells (lopCells (newLp p) gs vt (.slice (some ⟨W5.heap.size, 0, none⟩) p.trigs.length p.trigs.length)) T)) := by
  have e : (W5.alloc (.cells (Array.replicate p.trigs.length (Value.int .i64 0)) 3)).heap.size = W5.heap.size + 1 := by simp
  have hba : Below w.heap.size w (W5.alloc (.cells (Array.replicate p.trigs.length (Value.int .i64 0)) 3)).drew := (hb.alloc hb.size _).drew
  have hb7 : Below w.heap.size w w6 := hba.trans (Below.mono hb6 hba.size)
  have ht6 := Tide.OwnRow.below (w := (W5.alloc (.cells (Array.replicate p.trigs.length (Value.int .i64 0)) 3)).drew) (ht.alloc (.cells (Array.replicate p.trigs.length (Value.int .i64 0)) 3)) hb6 (Nat.le_refl _)
  have hf6 := Tide.OwnRow.below (w := (W5.alloc (.cells (Array.replicate p.trigs.length (Value.int .i64 0)) 3)).drew) (lop_zero_row W5 p.trigs.length (S := fun b => w.heap.size ≤ b) hb.size (by omega)) hb6 (Nat.le_refl _)
  exact lop_made (T := T) (TS := TS) (TM := TM) (gs := gs) hT ht6 hf6 hs (fun b hb2 => by
      rcases hb2 with hb2 | hb2
      · exact hb2.elim
      · have : (W5.alloc (.cells (Array.replicate p.trigs.length (Value.int .i64 0)) 3)).heap.size ≤ b := hb2.1
        have := hb.size; omega) (fun b hv hb2 => by
      rcases hb2 with hb2 | hb2
      · exact hb2.elim
      · have : (W5.alloc (.cells (Array.replicate p.trigs.length (Value.int .i64 0)) 3)).heap.size ≤ b := hb2.1
        have := (ht.block b hv).2; omega) (fun b hv hb2 => by
      simp [Value.ownBlock] at hv
      rcases hb2 with hb2 | hb2
      · exact hb2.elim
      · have : (W5.alloc (.cells (Array.replicate p.trigs.length (Value.int .i64 0)) 3)).heap.size ≤ b := hb2.1
        omega) hb7
set_option maxRecDepth 100000 in
set_option maxHeartbeats 12800000 in
theorem lopNewYes (p : Pln) (A : Option Addr) (cap : Nat) (w : World) (ht : Tide.ListIn w 17 Trg.enc (.slice A p.trigs.length cap) p.trigs) (hf : ∀ t ∈ p.trigs, t.fits) (hn : p.name.size ≤ 9223372036854775807) (hl : p.trigs.length ≤ 9223372036854775807) (hE : planE p = 0) :
    Calls Try.prog 8 #[plnV p (.slice A p.trigs.length cap)] w (NewLopPost 73 94 96 w p) := by
  obtain ⟨name, mn, mx, poll, cool, tol, back, after, shift, ⟨u0, u1, u2, u3⟩, ⟨d0, d1, d2, d3⟩, ts⟩ := p
  unfold plnV
  have hfew : ts.length ≤ 5 := (planE_ok hE).few
  simp only at ht hf hn hl hE ⊢
  have HB := Lib.hid ((Below.refl w.heap.size w).alloc (Nat.le_refl _) (.cells #[.string name, .int .i64 mn, .int .i64 mx, .int .i64 poll, .int .i64 cool, .int .i64 tol, .int .i64 back, .int .i64 after, .int .i64 shift, .int .i64 u0, .int .i64 u1, .int .i64 u2, .int .i64 u3, .int .i64 d0, .int .i64 d1, .int .i64 d2, .int .i64 d3, .slice A ts.length cap] 26))
  have HX := Lib.hid (Tide.At.made w 26 #[.string name, .int .i64 mn, .int .i64 mx, .int .i64 poll, .int .i64 cool, .int .i64 tol, .int .i64 back, .int .i64 after, .int .i64 shift, .int .i64 u0, .int .i64 u1, .int .i64 u2, .int .i64 u3, .int .i64 d0, .int .i64 d1, .int .i64 d2, .int .i64 d3, .slice A ts.length cap])
  have HC := Lib.hid (fun (W : World) (hb : Below w.heap.size w W) => planCheck name mn mx poll cool tol back after shift u0 u1 u2 u3 d0 d1 d2 d3 A cap ts W (ht.below hb (Nat.le_refl _)) hf hn hl)
  have HL := Lib.hid (fun (W : World) (hb : Below w.heap.size w W) => trgClone W A cap ts (ht.below hb (Nat.le_refl _)) (by omega))
  rw [hE] at HC
  have HFew := Lib.hid hfew
  have hm0 : (0 : Int) ≤ (ts.length : Int) := by omega
  have hm1 : (ts.length : Int) ≤ 5 := by omega
  clear ht hf hn hl hE hfew
  go_enter Try.func8, Try.ntmps8
  go_upto_region 1 with fail
  have HCx := Lib.hid (HC.out _ HB.out)
  generalize w.alloc (.cells #[.string name, .int .i64 mn, .int .i64 mx, .int .i64 poll, .int .i64 cool, .int .i64 tol, .int .i64 back, .int .i64 after, .int .i64 shift, .int .i64 u0, .int .i64 u1, .int .i64 u2, .int .i64 u3, .int .i64 d0, .int .i64 d1, .int .i64 d2, .int .i64 d3, .slice A ts.length cap] 26) = W at HB HX HCx ⊢
  clear HC
  go_wp2_with (refine wpList_load_row rfl 26 (.tmp 1) rfl w.heap.size rfl 26 _ (0, 0) _ HX.out Try.underlying26 rfl (by kernel_rfl) ?_)
  refine HCx.out.mono ?_
  rintro e w1 ⟨rfl, hb1⟩
  have HB1 := Lib.hid (HB.out.trans (hb1.mono HB.out.size))
  have HX1 := Lib.hid (HX.out.below hb1 HX.out.inside)
  clear hb1 HCx HX HB
  have x17 := HX1.out.here (i := 17) rfl
  have p17 := HX1.out.soft 17
  go_wp2_with fail
  refine (HL.out _ HB1.out).mono ?_
  rintro e w2 ⟨vt, rfl, ht2, hb2⟩
  have HZ1 := Lib.hid HB1.out.size
  obtain ⟨At, capt, rfl, _, _, _⟩ := ht2.slice
  have HB2 := Lib.hid ((HB1.out.trans (hb2.mono HB1.out.size)).setCell (p := ⟨w.heap.size, 17, none⟩) (Nat.le_refl _) (.slice At ts.length capt))
  have hx2 := HX1.out.below hb2 HX1.out.inside
  have HT2 := Lib.hid ((ht2.mono (S' := fun b => w.heap.size ≤ b) (fun b _ hb => by have := HZ1.out; omega)).aside (p := ⟨w.heap.size, 17, none⟩) (ht2.apartAt hx2 (by decide)) (.slice At ts.length capt))
  have HX2 : Hid (Tide.At (w2.setCell ⟨w.heap.size, 17, none⟩ (.slice At ts.length capt)) w.heap.size 26 #[.string name, .int .i64 mn, .int .i64 mx, .int .i64 poll, .int .i64 cool, .int .i64 tol, .int .i64 back, .int .i64 after, .int .i64 shift, .int .i64 u0, .int .i64 u1, .int .i64 u2, .int .i64 u3, .int .i64 d0, .int .i64 d1, .int .i64 d2, .int .i64 d3, .slice At ts.length capt]) := Lib.hid (hx2.put 17 _)
  clear x17 p17 HL HX1 HB1 ht2 HZ1
  have x17 := hx2.here (i := 17) rfl
  have p17 := hx2.soft 17
  clear hb2 hx2
  go_upto_region 5 with fail
  clear x17 p17
  generalize w2.setCell ⟨w.heap.size, 17, none⟩ (.slice At ts.length capt) = W5 at HB2 HX2 HT2 ⊢
  go_wp2_with fail
  have HmkW := Lib.hid (lop_make ts.length (by omega))
  have hS : Tide.At W5.drew w.heap.size 26 #[.string name, .int .i64 mn, .int .i64 mx, .int .i64 poll, .int .i64 cool, .int .i64 tol, .int .i64 back, .int .i64 after, .int .i64 shift, .int .i64 u0, .int .i64 u1, .int .i64 u2, .int .i64 u3, .int .i64 d0, .int .i64 d1, .int .i64 d2, .int .i64 d3, .slice At ts.length capt] := HX2.out.drew
  as_aux_lemma =>
  refine wp_region_held_drew (S := fun W => Tide.At W w.heap.size 26 #[.string name, .int .i64 mn, .int .i64 mx, .int .i64 poll, .int .i64 cool, .int .i64 tol, .int .i64 back, .int .i64 after, .int .i64 shift, .int .i64 u0, .int .i64 u1, .int .i64 u2, .int .i64 u3, .int .i64 d0, .int .i64 d1, .int .i64 d2, .int .i64 d3, .slice At ts.length capt]) (by kernel_rfl) hS (fun hh => ?_)
  clear hh
  change wpAnyH _ _ _ _ _ 14 #[false, false, false, false, false, false, false, false, false, false, false, false, false, false] _ (World.drew _)
  refine wpAnyH_take (i := 0) (v := .agg #[.string name, .int .i64 mn, .int .i64 mx, .int .i64 poll, .int .i64 cool, .int .i64 tol, .int .i64 back, .int .i64 after, .int .i64 shift, .int .i64 u0, .int .i64 u1, .int .i64 u2, .int .i64 u3, .int .i64 d0, .int .i64 d1, .int .i64 d2, .int .i64 d3, .slice At ts.length capt]) rfl (by kernel_rfl) (by kernel_rfl) (by kernel_rfl) (fun _ _ _ h => h) (.inl ⟨by rfl, fun W hW => ?_⟩) hS ?_
  · exact exec_load_row rfl rfl hW Try.underlying26 rfl (by kernel_rfl)
  simp only [Act.put, List.getElem_toArray, List.getElem_cons_succ, List.getElem_cons_zero, List.setIfInBounds_toArray, List.set_cons_zero, List.set_cons_succ]
  refine wpAnyH_take (i := 1) (v := .pointer (some ⟨w.heap.size, 9, none⟩)) rfl (by kernel_rfl) (by kernel_rfl) (by kernel_rfl) (fun _ _ _ h => h) (.inl ⟨by rfl, fun W hW => ?_⟩) hS ?_
  · clear hW; go_simp
  simp only [Act.put, List.getElem_toArray, List.getElem_cons_succ, List.getElem_cons_zero, List.setIfInBounds_toArray, List.set_cons_zero, List.set_cons_succ]
  refine wpAnyH_take (i := 2) (v := .agg #[.int .i64 u0, .int .i64 u1, .int .i64 u2, .int .i64 u3]) rfl (by kernel_rfl) (by kernel_rfl) (by kernel_rfl) (fun _ _ _ h => h) (.inl ⟨by rfl, fun W hW => ?_⟩) hS ?_
  · have z9 : W.cell? ⟨w.heap.size, 9, none⟩ = some (.int .i64 u0) := hW.here rfl; have z10 : W.cell? ⟨w.heap.size, 10, none⟩ = some (.int .i64 u1) := hW.here rfl; have z11 : W.cell? ⟨w.heap.size, 11, none⟩ = some (.int .i64 u2) := hW.here rfl; have z12 : W.cell? ⟨w.heap.size, 12, none⟩ = some (.int .i64 u3) := hW.here rfl; clear hW; go_simp
  simp only [Act.put, List.getElem_toArray, List.getElem_cons_succ, List.getElem_cons_zero, List.setIfInBounds_toArray, List.set_cons_zero, List.set_cons_succ]
  refine wpAnyH_take (i := 3) (v := .pointer (some ⟨w.heap.size, 13, none⟩)) rfl (by kernel_rfl) (by kernel_rfl) (by kernel_rfl) (fun _ _ _ h => h) (.inl ⟨by rfl, fun W hW => ?_⟩) hS ?_
  · clear hW; go_simp
  simp only [Act.put, List.getElem_toArray, List.getElem_cons_succ, List.getElem_cons_zero, List.setIfInBounds_toArray, List.set_cons_zero, List.set_cons_succ]
  refine wpAnyH_take (i := 4) (v := .agg #[.int .i64 d0, .int .i64 d1, .int .i64 d2, .int .i64 d3]) rfl (by kernel_rfl) (by kernel_rfl) (by kernel_rfl) (fun _ _ _ h => h) (.inl ⟨by rfl, fun W hW => ?_⟩) hS ?_
  · have z13 : W.cell? ⟨w.heap.size, 13, none⟩ = some (.int .i64 d0) := hW.here rfl; have z14 : W.cell? ⟨w.heap.size, 14, none⟩ = some (.int .i64 d1) := hW.here rfl; have z15 : W.cell? ⟨w.heap.size, 15, none⟩ = some (.int .i64 d2) := hW.here rfl; have z16 : W.cell? ⟨w.heap.size, 16, none⟩ = some (.int .i64 d3) := hW.here rfl; clear hW; go_simp
  simp only [Act.put, List.getElem_toArray, List.getElem_cons_succ, List.getElem_cons_zero, List.setIfInBounds_toArray, List.set_cons_zero, List.set_cons_succ]
  refine wpAnyH_take (i := 6) (v := .pointer (some ⟨w.heap.size, 17, none⟩)) rfl (by kernel_rfl) (by kernel_rfl) (by kernel_rfl) (fun _ _ _ h => h) (.inl ⟨by rfl, fun W hW => ?_⟩) hS ?_
  · clear hW; go_simp
  simp only [Act.put, List.getElem_toArray, List.getElem_cons_succ, List.getElem_cons_zero, List.setIfInBounds_toArray, List.set_cons_zero, List.set_cons_succ]
  refine wpAnyH_take (i := 7) (v := .slice At ts.length capt) rfl (by kernel_rfl) (by kernel_rfl) (by kernel_rfl) (fun _ _ _ h => h) (.inl ⟨by rfl, fun W hW => ?_⟩) hS ?_
  · have z17 : W.cell? ⟨w.heap.size, 17, none⟩ = some (.slice At ts.length capt) := hW.here rfl; clear hW; go_simp
  simp only [Act.put, List.getElem_toArray, List.getElem_cons_succ, List.getElem_cons_zero, List.setIfInBounds_toArray, List.set_cons_zero, List.set_cons_succ]
  refine wpAnyH_take (i := 8) (v := .int .i64 (ts.length : Int)) rfl (by kernel_rfl) (by kernel_rfl) (by kernel_rfl) (fun _ _ _ h => h) (.inl ⟨by rfl, fun W hW => ?_⟩) hS ?_
  · clear hW; go_simp
  simp only [Act.put, List.getElem_toArray, List.getElem_cons_succ, List.getElem_cons_zero, List.setIfInBounds_toArray, List.set_cons_zero, List.set_cons_succ]
  refine wpAnyH_ready (rs := [5, 9]) (by kernel_rfl) (by simp) (AllReadyH.cons rfl (fun K hK => ?_) (AllReadyH.cons rfl (fun K hK => ?_) AllReadyH.nil))
  · go_simp
    refine (stbNew ⟨u0, u1, u2, u3⟩ ⟨d0, d1, d2, d3⟩ _).mono ?_
    rintro e w6 ⟨gs, rfl, hs6, hb6⟩
    have HS6 := Lib.hid hs6; have HB6 := Lib.hid hb6
    have hS2 : Tide.At w6 w.heap.size 26 #[.string name, .int .i64 mn, .int .i64 mx, .int .i64 poll, .int .i64 cool, .int .i64 tol, .int .i64 back, .int .i64 after, .int .i64 shift, .int .i64 u0, .int .i64 u1, .int .i64 u2, .int .i64 u3, .int .i64 d0, .int .i64 d1, .int .i64 d2, .int .i64 d3, .slice At ts.length capt] := hS.below hb6 hS.inside
    clear hs6 hb6
    go_wp2_with fail
    refine hK.out _ _ hS2 (fun hh => ?_)
    clear hh hK K
    have hmk := HmkW.out
    refine wpAnyH_ready (rs := [9]) (by kernel_rfl) (by simp) (AllReadyH.cons rfl (fun K hK => ?_) AllReadyH.nil)
    go_simp
    have hS3 := hS2.alloc (.cells (Array.replicate ts.length (Value.int .i64 0)) 3)
    refine hK.out _ _ hS3 (fun hh => ?_)
    clear hh hK K hmk
    refine wpAnyH_take (i := 10) (v := .agg #[.string name, .int .i64 mn, .int .i64 mx, .int .i64 poll, .int .i64 cool, .int .i64 tol, .int .i64 back, .int .i64 after, .int .i64 shift, .int .i64 u0, .int .i64 u1, .int .i64 u2, .int .i64 u3, .int .i64 d0, .int .i64 d1, .int .i64 d2, .int .i64 d3, .slice At ts.length capt, .pointer (some ⟨gs, 0, none⟩), .slice (some ⟨w6.heap.size, 0, none⟩) ts.length ts.length, .bool false, .int .i64 0, .int .i64 0, .int .i64 (-1)]) rfl (by kernel_rfl) (by kernel_rfl) (by kernel_rfl) (fun _ _ _ h => h) (.inl ⟨by rfl, fun W hW => ?_⟩) hS3 ?_
    · exact exec_build rfl rfl (lop_built name mn mx poll cool tol back after shift u0 u1 u2 u3 d0 d1 d2 d3 At ts.length capt gs _)
    simp only [Act.put, List.getElem_toArray, List.getElem_cons_succ, List.getElem_cons_zero, List.setIfInBounds_toArray, List.set_cons_zero, List.set_cons_succ]
    refine wpAnyH_ready (rs := [11]) (by kernel_rfl) (by simp) (AllReadyH.cons rfl (fun K hK => ?_) AllReadyH.nil)
    go_simp
    have hS4 := hS3.alloc (.cells #[.string name, .int .i64 mn, .int .i64 mx, .int .i64 poll, .int .i64 cool, .int .i64 tol, .int .i64 back, .int .i64 after, .int .i64 shift, .int .i64 u0, .int .i64 u1, .int .i64 u2, .int .i64 u3, .int .i64 d0, .int .i64 d1, .int .i64 d2, .int .i64 d3, .slice At ts.length capt, .pointer (some ⟨gs, 0, none⟩), .slice (some ⟨w6.heap.size, 0, none⟩) ts.length ts.length, .bool false, .int .i64 0, .int .i64 0, .int .i64 (-1)] 73)
    refine hK.out _ _ hS4 (fun hh => ?_)
    clear hh hK K
    refine wpAnyH_take (i := 12) (v := .pointer (some ⟨w6.heap.size + 1, 0, none⟩)) rfl (by kernel_rfl) (by kernel_rfl) (by kernel_rfl) (fun _ _ _ h => h) (.inl ⟨by rfl, fun W hW => ?_⟩) hS4 ?_
    · clear hW; go_simp
    simp only [Act.put, List.getElem_toArray, List.getElem_cons_succ, List.getElem_cons_zero, List.setIfInBounds_toArray, List.set_cons_zero, List.set_cons_succ]
    refine wpAnyH_take (i := 13) (v := .int .i64 0) rfl (by kernel_rfl) (by kernel_rfl) (by kernel_rfl) (fun _ _ _ h => h) (.inl ⟨by rfl, fun W hW => ?_⟩) hS4 ?_
    · clear hW; go_simp
    simp only [Act.put, List.getElem_toArray, List.getElem_cons_succ, List.getElem_cons_zero, List.setIfInBounds_toArray, List.set_cons_zero, List.set_cons_succ]
    refine wpAnyH_done (by kernel_rfl) ?_ _
    clear hS hS2 hS3 hS4
    go_wp2_with fail
    go_ret2
    exact lop_endA (p := ⟨name, mn, mx, poll, cool, tol, back, after, shift, ⟨u0, u1, u2, u3⟩, ⟨d0, d1, d2, d3⟩, ts⟩) HFew.out HB2.out HT2.out HS6.out HB6.out
  · have hmk := HmkW.out
    go_simp
    have hS2 := hS.alloc (.cells (Array.replicate ts.length (Value.int .i64 0)) 3)
    refine hK.out _ _ hS2 (fun hh => ?_)
    clear hh hK K hmk
    refine wpAnyH_ready (rs := [5]) (by kernel_rfl) (by simp) (AllReadyH.cons rfl (fun K hK => ?_) AllReadyH.nil)
    go_simp
    refine (stbNew ⟨u0, u1, u2, u3⟩ ⟨d0, d1, d2, d3⟩ _).mono ?_
    rintro e w6 ⟨gs, rfl, hs6, hb6⟩
    have HS6 := Lib.hid hs6; have HB6 := Lib.hid hb6
    have hS3 : Tide.At w6 w.heap.size 26 #[.string name, .int .i64 mn, .int .i64 mx, .int .i64 poll, .int .i64 cool, .int .i64 tol, .int .i64 back, .int .i64 after, .int .i64 shift, .int .i64 u0, .int .i64 u1, .int .i64 u2, .int .i64 u3, .int .i64 d0, .int .i64 d1, .int .i64 d2, .int .i64 d3, .slice At ts.length capt] := hS2.below hb6 hS2.inside
    clear hs6 hb6
    go_wp2_with fail
    refine hK.out _ _ hS3 (fun hh => ?_)
    clear hh hK K
    refine wpAnyH_take (i := 10) (v := .agg #[.string name, .int .i64 mn, .int .i64 mx, .int .i64 poll, .int .i64 cool, .int .i64 tol, .int .i64 back, .int .i64 after, .int .i64 shift, .int .i64 u0, .int .i64 u1, .int .i64 u2, .int .i64 u3, .int .i64 d0, .int .i64 d1, .int .i64 d2, .int .i64 d3, .slice At ts.length capt, .pointer (some ⟨gs, 0, none⟩), .slice (some ⟨W5.heap.size, 0, none⟩) ts.length ts.length, .bool false, .int .i64 0, .int .i64 0, .int .i64 (-1)]) rfl (by kernel_rfl) (by kernel_rfl) (by kernel_rfl) (fun _ _ _ h => h) (.inl ⟨by rfl, fun W hW => ?_⟩) hS3 ?_
    · exact exec_build rfl rfl (lop_built name mn mx poll cool tol back after shift u0 u1 u2 u3 d0 d1 d2 d3 At ts.length capt gs _)
    simp only [Act.put, List.getElem_toArray, List.getElem_cons_succ, List.getElem_cons_zero, List.setIfInBounds_toArray, List.set_cons_zero, List.set_cons_succ]
    refine wpAnyH_ready (rs := [11]) (by kernel_rfl) (by simp) (AllReadyH.cons rfl (fun K hK => ?_) AllReadyH.nil)
    go_simp
    have hS4 := hS3.alloc (.cells #[.string name, .int .i64 mn, .int .i64 mx, .int .i64 poll, .int .i64 cool, .int .i64 tol, .int .i64 back, .int .i64 after, .int .i64 shift, .int .i64 u0, .int .i64 u1, .int .i64 u2, .int .i64 u3, .int .i64 d0, .int .i64 d1, .int .i64 d2, .int .i64 d3, .slice At ts.length capt, .pointer (some ⟨gs, 0, none⟩), .slice (some ⟨W5.heap.size, 0, none⟩) ts.length ts.length, .bool false, .int .i64 0, .int .i64 0, .int .i64 (-1)] 73)
    refine hK.out _ _ hS4 (fun hh => ?_)
    clear hh hK K
    refine wpAnyH_take (i := 12) (v := .pointer (some ⟨w6.heap.size, 0, none⟩)) rfl (by kernel_rfl) (by kernel_rfl) (by kernel_rfl) (fun _ _ _ h => h) (.inl ⟨by rfl, fun W hW => ?_⟩) hS4 ?_
    · clear hW; go_simp
    simp only [Act.put, List.getElem_toArray, List.getElem_cons_succ, List.getElem_cons_zero, List.setIfInBounds_toArray, List.set_cons_zero, List.set_cons_succ]
    refine wpAnyH_take (i := 13) (v := .int .i64 0) rfl (by kernel_rfl) (by kernel_rfl) (by kernel_rfl) (fun _ _ _ h => h) (.inl ⟨by rfl, fun W hW => ?_⟩) hS4 ?_
    · clear hW; go_simp
    simp only [Act.put, List.getElem_toArray, List.getElem_cons_succ, List.getElem_cons_zero, List.setIfInBounds_toArray, List.set_cons_zero, List.set_cons_succ]
    refine wpAnyH_done (by kernel_rfl) ?_ _
    clear hS hS2 hS3 hS4
    go_wp2_with fail
    go_ret2
    exact lop_endB (p := ⟨name, mn, mx, poll, cool, tol, back, after, shift, ⟨u0, u1, u2, u3⟩, ⟨d0, d1, d2, d3⟩, ts⟩) HFew.out HB2.out HT2.out HS6.out HB6.out
end Go.Proofs.Ytcnoapogeohmkaa


namespace Go.Proofs.Ytcnoapogeohmkaa
open Go.RowKit
set_option linter.unusedVariables false
theorem wpList_build2 {P : Program} {ops : Array Oper} {rest : List Oper} {o : Oper} {a : Act} {w : World} {Q : Exit → Act → World → Prop} (hg : o.guard = none) (t : TypeId) (parts : Array (Nat × Operand)) (ho : o.op = .build t parts) (l : List (Nat × Value)) (hp : parts.toList.map (fun y => (y.1, a.eval y.2)) = l)
    (cells : Array Value) (h : P.built t l = some cells) (k : wpList P ops Q rest (a.put o.dst (.agg cells)) w) : wpList P ops Q (o :: rest) a w :=
  wpList_plain hg fun _ hK => by
    subst hp
    rw [← Array.toList_map] at h
    unfold Oper.wp execOp
    simp only [ho, Sem.run_bind, Sem.run_pure, run_build w t _ cells h, Result.andThen_ok]
    exact hK _ _ k
theorem wpList_bslice2 {P : Program} {ops : Array Oper} {rest : List Oper} {o : Oper} {a : Act} {w : World} {Q : Exit → Act → World → Prop} (hg : o.guard = none) (t e : TypeId) (len : Nat) (parts : Array (Nat × Operand)) (ho : o.op = .buildSlice t len parts) (l : List (Nat × Value)) (hp : parts.toList.map (fun y => (y.1, a.eval y.2)) = l)
    (cells : Array Value) (ie : TypeInfo) (z : Value) (hu : P.underlying t = some (.slice e)) (hie : P.info? e = some ie) (hz : ie.zero = some z) (hsmall : ¬ len * ie.size > 2 ^ 24) (hpos : ¬ len * ie.size = 0)
    (hf : Instr.fill (fun i => some (i * ie.size, ie.size)) ((Array.range (len * ie.size)).map (z.cells[· % z.cells.size]!)) l = some cells)
    (k : wpList P ops Q rest (a.put o.dst (.slice (some ⟨w.heap.size, 0, none⟩) len len)) (w.alloc (.cells cells e))) : wpList P ops Q (o :: rest) a w := by
  subst hp
  rw [← Array.toList_map] at hf
  exact wpList_buildSlice hg t e len parts ho cells ie z hu hie hz hsmall hpos hf k
theorem _root_.Tide.At.row_set {w : World} {g : Nat} {t : TypeId} {old : Array Value} (h : Tide.At w g t old) (cs : Array Value) : Tide.At (w.setRow g cs) g t cs := setRow_heap w g old cs t (0, 0) h
theorem _root_.Tide.At.row_other {w : World} {g k : Nat} {t : TypeId} {cs : Array Value} (h : Tide.At w g t cs) (hk : g ≠ k) (cs' : Array Value) : Tide.At (w.setRow k cs') g t cs := (setRow_other w k g cs' hk).trans h
theorem _root_.Go.RowKit.Below.setRow {B : Nat} {a w : World} (h : Below B a w) {g : Nat} (hg : B ≤ g) (cs : Array Value) : Below B a (w.setRow g cs) :=
  ⟨h.os, h.tape, h.output, by rw [setRow_size]; exact h.size, fun k hk => (setRow_other w g k cs (by omega)).trans (h.block k hk)⟩
/-- a depth of ten a pod -/
def plainT : Trg := ⟨2, 10, 0, ⟨0, 0, 0, 0, 0, false, false⟩, ⟨0, 0, 0, 0, 0, false, false⟩⟩
def plainP : Pln := ⟨⟨#[112]⟩, 0, 9, 2, 6, 0, 0, 0, 0, ⟨0, 0, 0, 0⟩, ⟨0, 0, 0, 0⟩, [plainT]⟩
theorem plain_trg : (Try.prog.info? 65).map (fun i => (i.zero, i.size)) = some (some (.agg #[.int .i64 0, .int .i64 0, .int .i64 0, .int .u64 0, .int .u64 0, .int .u64 0, .int .u64 0, .int .u64 0, .bool false, .bool false, .int .u64 0, .int .u64 0, .int .u64 0, .int .u64 0, .int .u64 0, .bool false, .bool false]), 17) := by kernel_rfl
theorem info2 {i : Option TypeInfo} {z : Option Value} {s : Nat} (h : i.map (fun i => (i.zero, i.size)) = some (z, s)) : ∃ j, i = some j ∧ j.zero = z ∧ j.size = s := by
  cases i with
  | none => cases h
  | some j => simp only [Option.map_some, Option.some.injEq, Prod.mk.injEq] at h; exact ⟨j, rfl, h.1, h.2⟩
def TC10 : Array Value := #[.int .i64 2, .int .i64 10, .int .i64 0, .int .u64 0, .int .u64 0, .int .u64 0, .int .u64 0, .int .u64 0, .bool false, .bool false, .int .u64 0, .int .u64 0, .int .u64 0, .int .u64 0, .int .u64 0, .bool false, .bool false]
theorem plain_built : Try.prog.built 65 [(0, .int .i64 2), (1, .int .i64 10)] = some TC10 := by kernel_rfl
theorem plain_fill : Instr.fill (fun i => some (i * 17, 17)) ((Array.range (1 * 17)).map ((Value.agg #[.int .i64 0, .int .i64 0, .int .i64 0, .int .u64 0, .int .u64 0, .int .u64 0, .int .u64 0, .int .u64 0, .bool false, .bool false, .int .u64 0, .int .u64 0, .int .u64 0, .int .u64 0, .int .u64 0, .bool false, .bool false]).cells[· % (Value.agg #[.int .i64 0, .int .i64 0, .int .i64 0, .int .u64 0, .int .u64 0, .int .u64 0, .int .u64 0, .int .u64 0, .bool false, .bool false, .int .u64 0, .int .u64 0, .int .u64 0, .int .u64 0, .int .u64 0, .bool false, .bool false]).cells.size]!)) [(0, .agg TC10)] = some TC10 := by kernel_rfl
theorem plain_plan (b : Nat) : Try.prog.built 26 [(0, .string ⟨#[112]⟩), (2, .int .i64 9), (3, .int .i64 2), (4, .int .i64 6), (11, .slice (some ⟨b, 0, none⟩) 1 1)] = some (plnC plainP (.slice (some ⟨b, 0, none⟩) 1 1)) := by kernel_rfl
end Go.Proofs.Ytcnoapogeohmkaa
