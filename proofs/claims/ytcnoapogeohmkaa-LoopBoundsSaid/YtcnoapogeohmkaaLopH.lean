/- slices.Clone at triggers; the contract of loop.New. -/
import Derived.Test.YtcnoapogeohmkaaLopJ
import Derived.Test.YtcnoapogeohmkaaPlnE
import Derived.Lib.SliceRun
set_option linter.unusedVariables false
set_option linter.unusedSimpArgs false
namespace Go.Proofs.Ytcnoapogeohmkaa
open Go.RowKit
set_option linter.unusedVariables false
theorem trg_info : (Try.prog.info? 65).map (fun i => (i.zero, i.size, i.bytes)) = some (some (.agg #[.int .i64 0, .int .i64 0, .int .i64 0, .int .u64 0, .int .u64 0, .int .u64 0, .int .u64 0, .int .u64 0, .bool false, .bool false, .int .u64 0, .int .u64 0, .int .u64 0, .int .u64 0, .int .u64 0, .bool false, .bool false]), 17, 120) := by kernel_rfl
theorem trg_one {l : List Trg} : ∀ u ∈ l.flatMap Trg.enc, u.oneCell' = true := by
  intro u hu
  obtain ⟨p, _, hp⟩ := List.mem_flatMap.1 hu
  simp only [Trg.enc, List.mem_cons, List.not_mem_nil, or_false] at hp
  rcases hp with h | h | h | h | h | h | h | h | h | h | h | h | h | h | h | h | h <;> subst h <;> rfl
/-- the cells of a list of structs, one after the other -/
theorem list_cells {α : Type} {enc : α → List Value} {k : Nat} (hk : ∀ a, (enc a).length = k) (h0 : 0 < k) {w : World} {b off n cap : Nat} {l : List α} (hl : 0 < l.length) (h : Tide.ListIn w k enc (.slice (some ⟨b, off, none⟩) n cap) l) : ∀ (j : Nat) (u : Value), (l.flatMap enc)[j]? = some u → w.cell? ⟨b, off + j, none⟩ = some u := by
  obtain ⟨A, c, e, hA⟩ := h
  obtain ⟨b', off', e1, _, h2⟩ := hA hl
  cases e
  cases e1
  intro j u hu
  have hj : j < l.length * k := by rw [← Tide.flat_length hk]; exact Tide.get_lt hu
  have hi : j / k < l.length := (Nat.div_lt_iff_lt_mul h0).2 hj
  obtain ⟨a, ha⟩ := Tide.get_some l hi
  have hm : j % k < (enc a).length := by rw [hk]; exact Nat.mod_lt _ h0
  obtain ⟨v, hv⟩ := Tide.get_some (enc a) hm
  have e2 := Tide.flat_get hk ha hv
  rw [show j / k * k + j % k = j from Nat.div_add_mod' j k, hu] at e2
  cases e2
  have := h2 (j / k) a (j % k) _ ha hv
  rwa [Nat.add_assoc, show j / k * k + j % k = j from Nat.div_add_mod' j k] at this
def TrgClone (w : World) (ts : List Trg) (e : Ending) (w' : World) : Prop := ∃ v', e = .returned v' ∧ Tide.OwnRow (fun b => w.heap.size ≤ b) w' 65 17 v' ts.length (ts.flatMap Trg.enc) ∧ Below w.heap.size w w'
set_option maxRecDepth 100000 in
set_option maxHeartbeats 4000000 in
theorem trgClone (w : World) (A : Option Addr) (cap : Nat) (ts : List Trg) (h : Tide.ListIn w 17 Trg.enc (.slice A ts.length cap) ts) (hn : ts.length ≤ 100000000) :
    Calls Try.prog 27 #[.slice A ts.length cap] w (TrgClone w ts) := by
  cases A with
  | none =>
    have hz : ts = [] := by
      rcases Nat.eq_zero_or_pos ts.length with h0 | h0
      · exact List.length_eq_zero_iff.1 h0
      · obtain ⟨A1, c1, e, hA⟩ := h
        cases e
        obtain ⟨_, _, e1, _⟩ := hA h0
        cases e1
    have HF := Lib.hid (show TrgClone w ts (.returned (.slice none 0 0)) w from ⟨_, rfl, by rw [hz]; exact Tide.OwnRow.nil _ _ _ _, Below.refl _ _⟩)
    have hq := fun w => Lib.run_eql_slice_nil (P := Try.prog) w 24 65 none ts.length cap 0 0 Try.underlying24
    clear h hz
    go_enter Try.func27, Try.ntmps27
    go_wp2_with fail
    go_ret
    exact HF.out
  | some a =>
    have hc : ∀ (j : Nat) (u : Value), (ts.flatMap Trg.enc)[j]? = some u → w.cell? (a.add j) = some u ∧ (a.add j).block < w.heap.size := by
      intro j u hu
      have hj := Tide.get_lt hu
      rw [Tide.flat_length Trg.enc_length] at hj
      have h0 : 0 < ts.length := by
        rcases Nat.eq_zero_or_pos ts.length with h0 | h0
        · rw [h0] at hj; omega
        · exact h0
      obtain ⟨A1, c1, e, hA⟩ := id h
      cases e
      obtain ⟨b, off, e1, hlt, _⟩ := hA h0
      cases e1
      rw [Addr.add_lit]
      exact ⟨list_cells Trg.enc_length (by omega) h0 h j u hu, hlt⟩
    have hq := fun w => Lib.run_eql_slice_nil (P := Try.prog) w 24 65 (some a) ts.length cap 0 0 Try.underlying24
    obtain ⟨i0, hi0, hz0, hz1, hz2⟩ := info_parts trg_info
    have HC := Lib.hid hc; have HL := Lib.hid (Tide.flat_length Trg.enc_length ts); have H1 := Lib.hid (trg_one (l := ts))
    have hown : (w.alloc (.cells #[] 65)).ownsRow w.heap.size 65 17 (.slice (some ⟨w.heap.size, 0, none⟩) 0 0) 0 [] := World.ownsRow_made w #[] 0 (Nat.le_refl _) (Nat.zero_le _) rfl
    have HO := Lib.hid hown
    have hm3 := Lib.hid (show 0 + ts.length ≤ maxLen by simp only [maxLen]; omega)
    have hm4 := Lib.hid (show (0 + ts.length) * 120 ≤ 140737488355328 by omega)
    clear h hown hn hc
    go_enter Try.func27, Try.ntmps27
    go_wp2_with (at_builtin; refine wpList_append_own _ (by rfl) (.tmp 5) (.tmp 6) 24 (by rfl) w.heap.size 65 i0 (.agg #[.int .i64 0, .int .i64 0, .int .i64 0, .int .u64 0, .int .u64 0, .int .u64 0, .int .u64 0, .int .u64 0, .bool false, .bool false, .int .u64 0, .int .u64 0, .int .u64 0, .int .u64 0, .int .u64 0, .bool false, .bool false]) 17 120 Try.underlying24 hi0 hz0 hz1 hz2 rfl (by decide) _ _ _ rfl HO.out a ts.length cap (ts.flatMap Trg.enc) rfl HL.out ?c1 H1.out hm3.out hm4.out ?c5 ?_)
    case c1 => exact fun j u hu => (((Below.refl w.heap.size w).alloc (Nat.le_refl _) (.cells #[] 65)).cell (p := a.add j) (HC.out j u hu).2).trans (HC.out j u hu).1
    case c5 => simp
    intro v' w1 hown1 hg1 _
    have HF := Lib.hid (show TrgClone w ts (.returned v') w1 from by
      refine ⟨v', rfl, ?_, (((Below.refl _ w).alloc (Nat.le_refl _) _)).grown hg1 (by simp) (fun k hk => by simp [Value.ownBlock] at hk; omega)⟩
      exact Tide.OwnRow.of_owns hown1 (Tide.own_ge hown1))
    clear hown1 hg1
    go_wp2_with fail
    go_ret
    exact HF.out
/-- a loop of the call's own, just made -/
def NewLopPost (T TS TM : TypeId) (w : World) (p : Pln) (e : Ending) (w' : World) : Prop :=
  ∃ (g gs : Nat) (vt vf : Value) (S1 S2 : Nat → Prop), e = .returned (.tuple #[.pointer (some ⟨g, 0, none⟩), .int .i64 0]) ∧ LopAt T TS TM S1 S2 w' g gs vt vf (.slice none 0 0) (.slice none 0 0) (newLp p) ∧ (∀ b, S1 b → w.heap.size ≤ b) ∧ (∀ b, S2 b → w.heap.size ≤ b) ∧ Below w.heap.size w w'
theorem lop_made {T TS TM : TypeId} {w wb : World} {p : Pln} {vt vf : Value} {gs : Nat} {S2 : Nat → Prop} (hT1 : 65 ≠ T) (ht : Tide.OwnRow (fun b => w.heap.size ≤ b) wb 65 17 vt p.trigs.length (p.trigs.flatMap Trg.enc))
    (hf : Tide.OwnRow (fun b => w.heap.size ≤ b) wb 3 1 vf p.trigs.length ((List.replicate p.trigs.length 0).map (Value.int .i64))) (hs : StbAt TS TM S2 wb gs (Tide.newStb p.up p.down) (.slice none 0 0) (.slice none 0 0))
    (h2 : ∀ b, S2 b → w.heap.size ≤ b) (hvt : ∀ b, vt.ownBlock = some b → ¬ S2 b) (hvf : ∀ b, vf.ownBlock = some b → ¬ S2 b) (hb : Below w.heap.size w wb) :
    NewLopPost T TS TM w p (.returned (.tuple #[.pointer (some ⟨wb.heap.size, 0, none⟩), .int .i64 0])) (wb.alloc (.cells (lopCells (newLp p) gs vt vf) T)) := by
  refine ⟨_, gs, vt, vf, (fun b => b = wb.heap.size ∨ vt.ownBlock = some b ∨ vf.ownBlock = some b), S2, rfl, ⟨Tide.At.made _ _ _, ?_, ?_, hs.alloc _, .inl rfl, ?_, ?_⟩, ?_, h2, hb.alloc hb.size _⟩
  · exact Tide.OwnRow.of_owns (ht.alloc _).owns fun b hb => .inr (.inl hb)
  · show Tide.OwnRow _ _ _ 1 vf (List.replicate p.trigs.length 0).length ((List.replicate p.trigs.length 0).map (Value.int .i64))
    rw [List.length_replicate]
    exact Tide.OwnRow.of_owns (hf.alloc _).owns fun b hb => .inr (.inr hb)
  · intro b hb hb2
    rcases hb with rfl | hb | hb
    · exact Nat.lt_irrefl _ (hs.lim _ hb2)
    · exact hvt b hb hb2
    · exact hvf b hb hb2
  · intro b hb
    simp only [World.size_alloc]
    rcases hb with rfl | hb | hb
    · omega
    · have := (ht.block b hb).2; omega
    · have := (hf.block b hb).2; omega
  · intro b hb3
    rcases hb3 with rfl | hb3 | hb3
    · exact hb.size
    · exact (ht.block b hb3).1
    · exact (hf.block b hb3).1
set_option maxRecDepth 100000 in
set_option maxHeartbeats 12800000 in
theorem lopNewNo (p : Pln) (A : Option Addr) (cap : Nat) (w : World) (ht : Tide.ListIn w 17 Trg.enc (.slice A p.trigs.length cap) p.trigs) (hf : ∀ t ∈ p.trigs, t.fits) (hn : p.name.size ≤ 9223372036854775807) (hl : p.trigs.length ≤ 9223372036854775807) (hE : planE p ≠ 0) :
    Calls Try.prog 8 #[plnV p (.slice A p.trigs.length cap)] w fun e w' => e = .returned (.tuple #[.pointer none, .int .i64 (planE p)]) ∧ Below w.heap.size w w' := by
  obtain ⟨name, mn, mx, poll, cool, tol, back, after, shift, ⟨u0, u1, u2, u3⟩, ⟨d0, d1, d2, d3⟩, ts⟩ := p
  unfold plnV
  simp only at ht hf hn hl hE ⊢
  have HB := Lib.hid ((Below.refl w.heap.size w).alloc (Nat.le_refl _) (.cells (plnC ⟨name, mn, mx, poll, cool, tol, back, after, shift, ⟨u0, u1, u2, u3⟩, ⟨d0, d1, d2, d3⟩, ts⟩ (.slice A ts.length cap)) 26))
  have HX := Lib.hid (Tide.At.made w 26 (plnC ⟨name, mn, mx, poll, cool, tol, back, after, shift, ⟨u0, u1, u2, u3⟩, ⟨d0, d1, d2, d3⟩, ts⟩ (.slice A ts.length cap)))
  have HC := Lib.hid (fun (W : World) (hb : Below w.heap.size w W) => planCheck name mn mx poll cool tol back after shift u0 u1 u2 u3 d0 d1 d2 d3 A cap ts W (ht.below hb (Nat.le_refl _)) hf hn hl)
  unfold plnC at HB HX
  have HE := Lib.hid hE
  obtain ⟨E, hEE⟩ : ∃ E, planE ⟨name, mn, mx, poll, cool, tol, back, after, shift, ⟨u0, u1, u2, u3⟩, ⟨d0, d1, d2, d3⟩, ts⟩ = E := ⟨_, rfl⟩
  rw [hEE] at HC HE ⊢
  have hb1 : (E != 0) = true := by simpa using HE.out
  clear ht hf hn hl hE hEE
  go_enter Try.func8, Try.ntmps8
  go_upto_region 1 with fail
  simp only at HB HX
  have HCx := Lib.hid (HC.out _ HB.out)
  generalize w.alloc (.cells #[.string name, .int .i64 mn, .int .i64 mx, .int .i64 poll, .int .i64 cool, .int .i64 tol, .int .i64 back, .int .i64 after, .int .i64 shift, .int .i64 u0, .int .i64 u1, .int .i64 u2, .int .i64 u3, .int .i64 d0, .int .i64 d1, .int .i64 d2, .int .i64 d3, .slice A ts.length cap] 26) = W at HB HX HCx ⊢
  clear HC
  go_wp2_with (refine wpList_load_row rfl 26 (.tmp 1) rfl w.heap.size rfl 26 _ (0, 0) _ HX.out Try.underlying26 rfl (by kernel_rfl) ?_)
  refine HCx.out.mono ?_
  rintro e w1 ⟨rfl, hb3⟩
  have HB3 := Lib.hid (HB.out.trans (hb3.mono HB.out.size))
  clear hb3 HCx
  go_wp2_with fail
  go_ret2
  exact ⟨rfl, HB3.out⟩
end Go.Proofs.Ytcnoapogeohmkaa
