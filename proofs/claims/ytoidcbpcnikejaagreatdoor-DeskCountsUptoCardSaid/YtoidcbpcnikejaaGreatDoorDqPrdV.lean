/- The contract of (*reader).trigger. -/
import Derived.Test.YtoidcbpcnikejaaGreatDoorDq29
set_option linter.unusedVariables false
set_option linter.unusedSimpArgs false
set_option maxRecDepth 100000
set_option maxHeartbeats 12800000
namespace Go.Proofs.YtoidcbpcnikejaaGreatDoor
open Go.RowKit
theorem trig_info : (Tryz.prog.info? 171).map (fun i => (i.zero, i.size, i.bytes)) = some (some (.agg #[.int .i64 0, .int .i64 0, .int .i64 0, .int .u64 0, .int .u64 0, .int .u64 0, .int .u64 0, .int .u64 0, .bool false, .bool false, .int .u64 0, .int .u64 0, .int .u64 0, .int .u64 0, .int .u64 0, .bool false, .bool false]), 17, 120) := by kernel_rfl
theorem enc_one (t : Trg) : ∀ u ∈ Trg.enc t, u.oneCell' = true := by
 intro u hu
 simp only [Trg.enc, List.mem_cons, List.not_mem_nil, or_false] at hu
 rcases hu with h | h | h | h | h | h | h | h | h | h | h | h | h | h | h | h | h <;> subst h <;> rfl
theorem trig_fill (t : Trg) : Instr.fill (fun i => some (i * 17, 17)) ((Array.range (1 * 17)).map ((Value.agg #[.int .i64 0, .int .i64 0, .int .i64 0, .int .u64 0, .int .u64 0, .int .u64 0, .int .u64 0, .int .u64 0, .bool false, .bool false, .int .u64 0, .int .u64 0, .int .u64 0, .int .u64 0, .int .u64 0, .bool false, .bool false]).cells[· % (Value.agg #[.int .i64 0, .int .i64 0, .int .i64 0, .int .u64 0, .int .u64 0, .int .u64 0, .int .u64 0, .int .u64 0, .bool false, .bool false, .int .u64 0, .int .u64 0, .int .u64 0, .int .u64 0, .int .u64 0, .bool false, .bool false]).cells.size]!)) [(0, .agg (trgA t))] = some (trgA t) := by kernel_rfl
section
variable {P : Program} {ops : Array Oper} {o : Oper} {a : Act} {w : World} {K : Act → World → Prop} {Q : Exit → Act → World → Prop} {E : Prop}
theorem step_load_row (hgd : o.guard = none) (ty t : TypeId) (x : Operand) (ho : o.op = .load ty x) (g : Nat) (hx : a.eval x = .pointer (some ⟨g, 0, none⟩)) (cs : Array Value) (hg : w.heap[g]? = some (.cells cs t (0, 0))) (d : TypeDesc) (hu : P.underlying ty = some d) (hd : (match d with | .struct _ | .array _ _ => true | _ => false) = true) (hi : (P.info? ty).map (·.size) = some cs.size)
  (h : K (a.put o.dst (.agg cs)) w) : if Region.wanted o (yielded ops a.tmps) = true then Oper.wp P o a w K Q else E := by
 have hw : Region.wanted o (yielded ops a.tmps) = true := by simp [Region.wanted, hgd]
 rw [if_pos hw]
 unfold Oper.wp execOp
 simp only [ho, hx, Instr.loadAt, Instr.sureAddr, Sem.run_bind, Sem.run_pure, Result.andThen_ok, run_loadVar_row w g t ty cs (0, 0) d hg hu hd hi]
 exact h
theorem step_bslice2 (hgd : o.guard = none) (t e : TypeId) (len : Nat) (parts : Array (Nat × Operand)) (ho : o.op = .buildSlice t len parts) (l : List (Nat × Value)) (hp : parts.toList.map (fun y => (y.1, a.eval y.2)) = l) (cells : Array Value) (ie : TypeInfo) (z : Value)
  (hu : P.underlying t = some (.slice e)) (hie : P.info? e = some ie) (hz : ie.zero = some z) (hsmall : ¬ len * ie.size > 2 ^ 24) (hpos : ¬ len * ie.size = 0)
  (hf : Instr.fill (fun i => some (i * ie.size, ie.size)) ((Array.range (len * ie.size)).map (z.cells[· % z.cells.size]!)) l = some cells)
  (h : K (a.put o.dst (.slice (some ⟨w.heap.size, 0, none⟩) len len)) (w.alloc (.cells cells e))) : if Region.wanted o (yielded ops a.tmps) = true then Oper.wp P o a w K Q else E := by
 have hw : Region.wanted o (yielded ops a.tmps) = true := by simp [Region.wanted, hgd]
 rw [if_pos hw]
 subst hp
 rw [← Array.toList_map] at hf
 exact wp_buildSlice t e len parts ho cells ie z hu hie hz hsmall hpos hf h
end
theorem readerTrigger (w0 w : World) (R : Option Pln × Nat) (m : Int) (g gp : Nat) (v : Value) (i : Nat) (p : Pln) (s : ByteArray) (h : TrS w0 w R m g gp v i p s) (h4 : 4 ≤ i) (hs0 : 0 < s.size) :
  Calls Tryz.prog 76 #[.pointer (some ⟨g, 0, none⟩), .pointer (some ⟨gp, 0, none⟩)] w (TrigPost w0 R m g gp i s.size) := by
 have hsz := h.size
 obtain ⟨l0, l1, l2⟩ := words_len s (by omega)
 have hmb := h.mb; have hog := h.og
 have HLn := J (readerLine g s (i : Int) m w h.rd (by omega) (by omega) (by omega) h.mx (by omega))
 have HH := J h
 have HLm := J (line_more (p := p) (ws := wordsOf s) h4)
 have HS0 := J hs0
 obtain ⟨ws, hws⟩ : ∃ ws, wordsOf s = ws := ⟨_, rfl⟩
 have HWo := J hws
 obtain ⟨z, hz⟩ : ∃ z, G.cutZ 10 s = z := ⟨_, rfl⟩
 have HZ := J hz
 unfold LinePost at HLn
 rw [hws, hz] at HLn
 rw [hws] at l0 l1 l2 HLm
 have HWs := J l2
 obtain ⟨x, hx⟩ := G.get_some ws (show 0 < ws.length by omega)
 have HPx := J (G.pieceAt_get hx)
 have HX := J hx
 obtain ⟨ok, hok⟩ : ∃ ok, (z && (trigN ws).isSome) = ok := ⟨_, rfl⟩
 have HOk := J hok
 obtain ⟨n, hn⟩ : ∃ n, ws.length = n := ⟨_, rfl⟩
 have HN := J hn
 rw [hn] at HLn l0 l1
 have i1 : (n : Int) ≤ 1000001 := by omega
 have i2 : (0 : Int) < (n : Int) := by omega
 clear h l2 hx hok hn hz hws hs0 hsz h4
 go_enter Tryz.func76, Tryz.ntmps76
 go_wp2_with fail
 refine HLn.u.mono ?_
 rintro e w1 ⟨bw, rfl, hw1, hbw, hr1, hc1⟩
 have HT2 := J (show G.At (w1.alloc (.cells #[.int .i64 0, .int .i64 0, .int .i64 0, .int .u64 0, .int .u64 0, .int .u64 0, .int .u64 0, .int .u64 0, .bool false, .bool false, .int .u64 0, .int .u64 0, .int .u64 0, .int .u64 0, .int .u64 0, .bool false, .bool false] 171)) w1.heap.size 171 (trgA zeroT) from G.At.made w1 171 (trgA zeroT))
 have HW2 := J (hw1.below ((Below.refl w1.heap.size w1).alloc (Nat.le_refl _) (.cells #[.int .i64 0, .int .i64 0, .int .i64 0, .int .u64 0, .int .u64 0, .int .u64 0, .int .u64 0, .int .u64 0, .bool false, .bool false, .int .u64 0, .int .u64 0, .int .u64 0, .int .u64 0, .int .u64 0, .bool false, .bool false] 171)))
 have HR2 := J (hr1.alloc (.cells #[.int .i64 0, .int .i64 0, .int .i64 0, .int .u64 0, .int .u64 0, .int .u64 0, .int .u64 0, .int .u64 0, .bool false, .bool false, .int .u64 0, .int .u64 0, .int .u64 0, .int .u64 0, .int .u64 0, .bool false, .bool false] 171))
 have HC2 := J (hc1.alloc (.cells #[.int .i64 0, .int .i64 0, .int .i64 0, .int .u64 0, .int .u64 0, .int .u64 0, .int .u64 0, .int .u64 0, .bool false, .bool false, .int .u64 0, .int .u64 0, .int .u64 0, .int .u64 0, .int .u64 0, .bool false, .bool false] 171))
 have nbt : bw ≠ w1.heap.size := by have := hw1.lt; omega
 have ngt : g ≠ w1.heap.size := by have := hr1.inside; omega
 have npt : gp ≠ w1.heap.size := by have := HH.u.plan.inside; have := hc1.size; omega
 have nwt : w.heap.size ≤ w1.heap.size := hc1.size
 have ngm : w0.heap.size ≤ w1.heap.size := by have := HH.u.below.size; have := hc1.size; omega
 clear hw1 hr1 HLn
 go_upto_region 3 with fail
 generalize w1.alloc (.cells #[.int .i64 0, .int .i64 0, .int .i64 0, .int .u64 0, .int .u64 0, .int .u64 0, .int .u64 0, .int .u64 0, .bool false, .bool false, .int .u64 0, .int .u64 0, .int .u64 0, .int .u64 0, .int .u64 0, .bool false, .bool false] 171) = W2 at HT2 HW2 HR2 HC2 ⊢
 generalize w1.heap.size = gt at HT2 nbt ngt npt nwt ngm ⊢
 clear hc1
 have c0 : W2.cell? ⟨bw, 0, none⟩ = some (.string x) := HW2.u.cell 0 x HX.u
 have t0 := HT2.u.here (i := 0) rfl
 have p0 := HT2.u.soft 0
 go_upto_block 0 with fail
 go_cut [6] (fun y wx => y = .bool ok ∧ Hid (TrgMid W2 wx gt ok ws))
 case first =>
  by_cases hxlag : x = wdLag
  ·have e1 : (x.toList == [108, 97, 103]) = true := word_eq (by rw [ByteArray.toList_eq]; rfl) hxlag
   have HTr := J (trig_lag (ws := ws) (HPx.u.trans hxlag))
   clear hxlag
   cases z
   ·have HM := J (show TrgMid W2 (W2.setCell ⟨gt, 0, none⟩ (.int .i64 1)) gt false ws from ⟨⟨⟨1, 0, 0, crZ, crZ⟩, HT2.u.put 0 (.int .i64 1), by simp⟩, (G.Chg.refl (fun b => b = gt) W2).put (p := ⟨gt, 0, none⟩) (.inl rfl) (.int .i64 1)⟩)
    have hf : ok = false := HOk.u.symm
    subst hf
    go_wp2_with fail
    go_meet
    exact ⟨rfl, HM⟩
   by_cases hn1 : n = 1
   ·subst hn1
    clear l0 l1 i1 i2
    have hA : G.At ((W2.setCell ⟨gt, 0, none⟩ (.int .i64 1)).alloc (.cells #[.pointer (some ⟨gt, 1, none⟩), .pointer (some ⟨gt, 2, none⟩)] 208)) gt 171 (trgA ⟨1, 0, 0, crZ, crZ⟩) := (HT2.u.put 0 (.int .i64 1)).alloc _
    have hC : G.Chg (fun b => b = gt) W2 ((W2.setCell ⟨gt, 0, none⟩ (.int .i64 1)).alloc (.cells #[.pointer (some ⟨gt, 1, none⟩), .pointer (some ⟨gt, 2, none⟩)] 208)) := ((G.Chg.refl (fun b => b = gt) W2).put (p := ⟨gt, 0, none⟩) (.inl rfl) (.int .i64 1)).alloc _
    have HRd := J (readTwo 1 ws bw gt W2 _ W2.heap.size 2 1 HN.u ((HW2.u.chg hC nbt)) hA (by have h9 := G.At.made (W2.setCell ⟨gt, 0, none⟩ (.int .i64 1)) 208 #[.pointer (some ⟨gt, 1, none⟩), .pointer (some ⟨gt, 2, none⟩)]; rw [G.size_put] at h9; exact h9) hC nbt (by have := HT2.u.inside; omega) HWs.u (by omega) (by omega) 0 (.inl ⟨rfl, rfl⟩))
    clear hA hC
    go_wp2_with fail
    refine HRd.u.mono ?_
    rintro e w5 ⟨rfl, ht5, hc5⟩
    have HM := J (show TrgMid W2 w5 gt ok ws from ⟨by rw [← HOk.u, HTr.u, Bool.true_and]; exact ht5, hc5⟩)
    rw [show (twoN 1 ws).isSome = ok by rw [← HOk.u, HTr.u, Bool.true_and]]
    clear ht5 hc5 HRd
    cases ok
    ·go_wp2_with fail
     go_meet
     exact ⟨rfl, HM⟩
    go_wp2_with fail
    go_meet
    exact ⟨rfl, HM⟩
   have i3 : 1 < n := by omega
   have i4 : (1 : Int) < (n : Int) := by omega
   clear hn1 l0 l1
   have hA : G.At ((W2.setCell ⟨gt, 0, none⟩ (.int .i64 1)).alloc (.cells #[.pointer (some ⟨gt, 1, none⟩), .pointer (some ⟨gt, 2, none⟩)] 208)) gt 171 (trgA ⟨1, 0, 0, crZ, crZ⟩) := (HT2.u.put 0 (.int .i64 1)).alloc _
   have hC : G.Chg (fun b => b = gt) W2 ((W2.setCell ⟨gt, 0, none⟩ (.int .i64 1)).alloc (.cells #[.pointer (some ⟨gt, 1, none⟩), .pointer (some ⟨gt, 2, none⟩)] 208)) := ((G.Chg.refl (fun b => b = gt) W2).put (p := ⟨gt, 0, none⟩) (.inl rfl) (.int .i64 1)).alloc _
   have HRd := J (readTwo 1 ws bw gt W2 _ W2.heap.size 2 n HN.u ((HW2.u.chg hC nbt)) hA (by have h9 := G.At.made (W2.setCell ⟨gt, 0, none⟩ (.int .i64 1)) 208 #[.pointer (some ⟨gt, 1, none⟩), .pointer (some ⟨gt, 2, none⟩)]; rw [G.size_put] at h9; exact h9) hC nbt (by have := HT2.u.inside; omega) HWs.u (by omega) (by omega) 1 (.inr ⟨i3, rfl⟩))
   clear hA hC
   go_wp2_with fail
   refine HRd.u.mono ?_
   rintro e w5 ⟨rfl, ht5, hc5⟩
   have HM := J (show TrgMid W2 w5 gt ok ws from ⟨by rw [← HOk.u, HTr.u, Bool.true_and]; exact ht5, hc5⟩)
   rw [show (twoN 1 ws).isSome = ok by rw [← HOk.u, HTr.u, Bool.true_and]]
   clear ht5 hc5 HRd
   cases ok
   ·go_wp2_with fail
    go_meet
    exact ⟨rfl, HM⟩
   go_wp2_with fail
   go_meet
   exact ⟨rfl, HM⟩
  have e1 : (x.toList == [108, 97, 103]) = false := word_ne (y := wdLag) (by rw [ByteArray.toList_eq]; rfl) hxlag
  by_cases hxdepth : x = wdDepth
  ·have e2 : (x.toList == [100, 101, 112, 116, 104]) = true := word_eq (by rw [ByteArray.toList_eq]; rfl) hxdepth
   have HTr := J (trig_depth (ws := ws) (HPx.u.trans hxdepth))
   clear hxdepth
   cases z
   ·have HM := J (show TrgMid W2 (W2.setCell ⟨gt, 0, none⟩ (.int .i64 2)) gt false ws from ⟨⟨⟨2, 0, 0, crZ, crZ⟩, HT2.u.put 0 (.int .i64 2), by simp⟩, (G.Chg.refl (fun b => b = gt) W2).put (p := ⟨gt, 0, none⟩) (.inl rfl) (.int .i64 2)⟩)
    have hf : ok = false := HOk.u.symm
    subst hf
    go_wp2_with fail
    go_meet
    exact ⟨rfl, HM⟩
   by_cases hn1 : n = 1
   ·subst hn1
    clear l0 l1 i1 i2
    have hA : G.At ((W2.setCell ⟨gt, 0, none⟩ (.int .i64 2)).alloc (.cells #[.pointer (some ⟨gt, 1, none⟩), .pointer (some ⟨gt, 2, none⟩)] 208)) gt 171 (trgA ⟨2, 0, 0, crZ, crZ⟩) := (HT2.u.put 0 (.int .i64 2)).alloc _
    have hC : G.Chg (fun b => b = gt) W2 ((W2.setCell ⟨gt, 0, none⟩ (.int .i64 2)).alloc (.cells #[.pointer (some ⟨gt, 1, none⟩), .pointer (some ⟨gt, 2, none⟩)] 208)) := ((G.Chg.refl (fun b => b = gt) W2).put (p := ⟨gt, 0, none⟩) (.inl rfl) (.int .i64 2)).alloc _
    have HRd := J (readTwo 2 ws bw gt W2 _ W2.heap.size 2 1 HN.u ((HW2.u.chg hC nbt)) hA (by have h9 := G.At.made (W2.setCell ⟨gt, 0, none⟩ (.int .i64 2)) 208 #[.pointer (some ⟨gt, 1, none⟩), .pointer (some ⟨gt, 2, none⟩)]; rw [G.size_put] at h9; exact h9) hC nbt (by have := HT2.u.inside; omega) HWs.u (by omega) (by omega) 0 (.inl ⟨rfl, rfl⟩))
    clear hA hC
    go_wp2_with fail
    refine HRd.u.mono ?_
    rintro e w5 ⟨rfl, ht5, hc5⟩
    have HM := J (show TrgMid W2 w5 gt ok ws from ⟨by rw [← HOk.u, HTr.u, Bool.true_and]; exact ht5, hc5⟩)
    rw [show (twoN 2 ws).isSome = ok by rw [← HOk.u, HTr.u, Bool.true_and]]
    clear ht5 hc5 HRd
    cases ok
    ·go_wp2_with fail
     go_meet
     exact ⟨rfl, HM⟩
    go_wp2_with fail
    go_meet
    exact ⟨rfl, HM⟩
   have i3 : 1 < n := by omega
   have i4 : (1 : Int) < (n : Int) := by omega
   clear hn1 l0 l1
   have hA : G.At ((W2.setCell ⟨gt, 0, none⟩ (.int .i64 2)).alloc (.cells #[.pointer (some ⟨gt, 1, none⟩), .pointer (some ⟨gt, 2, none⟩)] 208)) gt 171 (trgA ⟨2, 0, 0, crZ, crZ⟩) := (HT2.u.put 0 (.int .i64 2)).alloc _
   have hC : G.Chg (fun b => b = gt) W2 ((W2.setCell ⟨gt, 0, none⟩ (.int .i64 2)).alloc (.cells #[.pointer (some ⟨gt, 1, none⟩), .pointer (some ⟨gt, 2, none⟩)] 208)) := ((G.Chg.refl (fun b => b = gt) W2).put (p := ⟨gt, 0, none⟩) (.inl rfl) (.int .i64 2)).alloc _
   have HRd := J (readTwo 2 ws bw gt W2 _ W2.heap.size 2 n HN.u ((HW2.u.chg hC nbt)) hA (by have h9 := G.At.made (W2.setCell ⟨gt, 0, none⟩ (.int .i64 2)) 208 #[.pointer (some ⟨gt, 1, none⟩), .pointer (some ⟨gt, 2, none⟩)]; rw [G.size_put] at h9; exact h9) hC nbt (by have := HT2.u.inside; omega) HWs.u (by omega) (by omega) 1 (.inr ⟨i3, rfl⟩))
   clear hA hC
   go_wp2_with fail
   refine HRd.u.mono ?_
   rintro e w5 ⟨rfl, ht5, hc5⟩
   have HM := J (show TrgMid W2 w5 gt ok ws from ⟨by rw [← HOk.u, HTr.u, Bool.true_and]; exact ht5, hc5⟩)
   rw [show (twoN 2 ws).isSome = ok by rw [← HOk.u, HTr.u, Bool.true_and]]
   clear ht5 hc5 HRd
   cases ok
   ·go_wp2_with fail
    go_meet
    exact ⟨rfl, HM⟩
   go_wp2_with fail
   go_meet
   exact ⟨rfl, HM⟩
  have e2 : (x.toList == [100, 101, 112, 116, 104]) = false := word_ne (y := wdDepth) (by rw [ByteArray.toList_eq]; rfl) hxdepth
  by_cases hxspan : x = wdSpan
  ·have e3 : (x.toList == [115, 112, 97, 110]) = true := word_eq (by rw [ByteArray.toList_eq]; rfl) hxspan
   have HTr := J (trig_span (ws := ws) (HPx.u.trans hxspan))
   clear hxspan
   cases z
   ·have HM := J (show TrgMid W2 W2 gt false ws from ⟨⟨zeroT, HT2.u, by simp⟩, G.Chg.refl _ W2⟩)
    have hf : ok = false := HOk.u.symm
    subst hf
    go_wp2_with fail
    go_meet
    exact ⟨rfl, HM⟩
   have HTm := J (planTimed ws bw gt m W2 HW2.u HT2.u ((chg_cell HC2.u (World.block_lt_of_cell? _ _ HH.u.mx) (fun e => by have e9 : 0 = g := e; omega) 0).trans HH.u.mx) nbt (by omega) HWs.u (by rw [HN.u]; omega) (by rw [HN.u]; omega))
   rw [HN.u] at HTm
   go_wp2_with fail
   refine HTm.u.mono ?_
   rintro e w5 ⟨rfl, ⟨t, ht, htn⟩, hc5⟩
   have hto : timedOk ws = ok := by
    rw [← HOk.u, HTr.u, Bool.true_and]; unfold timedN
    cases timedOk ws <;> rfl
   rw [hto] at htn ⊢
   have HM := J (show TrgMid W2 w5 gt ok ws from ⟨⟨t, ht, fun q => by rw [HTr.u]; exact htn q⟩, hc5⟩)
   clear ht htn hc5 HTm hto
   cases ok
   ·go_wp2_with fail
    go_meet
    exact ⟨rfl, HM⟩
   go_wp2_with fail
   go_meet
   exact ⟨rfl, HM⟩
  have e3 : (x.toList == [115, 112, 97, 110]) = false := word_ne (y := wdSpan) (by rw [ByteArray.toList_eq]; rfl) hxspan
  have hf : ok = false := by rw [← HOk.u, trig_else (by rw [HPx.u]; exact hxlag) (by rw [HPx.u]; exact hxdepth) (by rw [HPx.u]; exact hxspan)]; simp
  have HM := J (show TrgMid W2 W2 gt false ws from ⟨⟨zeroT, HT2.u, by simp⟩, G.Chg.refl _ W2⟩)
  subst hf
  go_wp2_with fail
  go_meet
  exact ⟨rfl, HM⟩
 obtain ⟨rfl, HM⟩ := hcut
 clear c0 t0 p0 HT2
 rename World => W6
 obtain ⟨⟨t, hat, htn⟩, hc6⟩ := HM.u
 have hbw : Below w0.heap.size w0 W2 := HH.u.below.trans (HC2.u.below HH.u.below.size (fun b hb e => by omega))
 have hb6 : Below w0.heap.size w0 W6 := hbw.trans (hc6.below hbw.size (fun b hb e => by omega))
 have hp6 : G.At W6 gp 101 (plnC p v) := (HH.u.plan.chg HC2.u HH.u.ne).chg hc6 npt
 have hr6 : G.At W6 g 146 #[.string (G.cutY 10 s), .int .i64 ((i : Int) + 1)] := HR2.u.chg hc6 ngt
 have ho6 : G.OwnRow (fun b => w0.heap.size ≤ b ∧ b ≠ g ∧ b ≠ gp) W6 171 17 v p.trigs.length (p.trigs.flatMap Trg.enc) :=
  (((HH.u.own.mono (S' := fun b => (w0.heap.size ≤ b ∧ b ≠ g ∧ b ≠ gp) ∧ b < w.heap.size) (fun b hlt hb => ⟨hb, hlt⟩)).chg HC2.u (fun b hb e => hb.1.2.1 e)).chg hc6 (fun b hb e => by have : b = gt := e; omega)).mono (fun b _ hb => hb.1)
 have hmx6 : W6.cell? ⟨0, 0, none⟩ = some (.int .i64 m) := (hb6.cell (p := ⟨0, 0, none⟩) HH.u.mb).trans ((HH.u.below.cell (p := ⟨0, 0, none⟩) HH.u.mb).symm.trans HH.u.mx)
 have HO := J (fun (V : World) (hb : Below W6.heap.size W6 V) => ho6.below hb (Nat.le_refl _))
 have HP := J (fun (V : World) (hb : Below W6.heap.size W6 V) => hp6.below hb hp6.inside)
 have HRd := J (fun (V : World) (hb : Below W6.heap.size W6 V) => hr6.below hb hr6.inside)
 have HBl := J (fun (V : World) (hb : Below W6.heap.size W6 V) => hb6.trans (hb.mono hb6.size))
 have HAt := J hat
 have x17 : W6.cell? ⟨gp, 17, none⟩ = some v := hp6.here rfl
 have hgp6 : gp < W6.heap.size := hp6.inside
 have hgt6 : gt < W6.heap.size := hat.inside
 obtain ⟨i0, hi, hz0, hz1, hz2⟩ := info_split trig_info
 have hm3 := J (show p.trigs.length + 1 ≤ maxLen by have := HH.u.many; have := HH.u.size; simp only [maxLen]; omega)
 have hm4 := J (show (p.trigs.length + 1) * 120 ≤ 140737488355328 by have := HH.u.many; have := HH.u.size; omega)
 have HFin := J (fun (V : World) (hbV : Below W6.heap.size W6 V) (gb cap1 : Nat) (w1 : World) (hown1 : w1.ownsRow 0 171 17 (.slice (some ⟨gb, 0, none⟩) (p.trigs.length + 1) cap1) (p.trigs.length + 1) (p.trigs.flatMap Trg.enc ++ Trg.enc t)) (hg1 : V.grownBy w1 v.ownBlock) (hl1 : v.ownBlock = some gb ∨ gb = V.heap.size) (hl2 : gb < w1.heap.size) => (show w1.cell? ⟨gp, 17, none⟩ = some v ∧ w1.frozen? ⟨gp, 17, none⟩ = false ∧ TrigPost w0 R m g gp i s.size (.returned (.bool ok)) (w1.setCell ⟨gp, 17, none⟩ (.slice (some ⟨gb, 0, none⟩) (p.trigs.length + 1) cap1)) from by
  obtain ⟨r1, r2⟩ := (HO.u V hbV).app hown1 hg1 hl1 hl2
  have hpl := (HP.u V hbV).chg r2 (fun e => e.2.2 rfl)
  have hrd := (HRd.u V hbV).chg r2 (fun e => e.2.1 rfl)
  have hbl := (HBl.u V hbV).trans (r2.below (HBl.u V hbV).size (fun b hb e => by have := e.1; omega))
  have hzz := r2.size
  have hgl := (HRd.u V hbV).inside; have hpl2 := (HP.u V hbV).inside
  have hbz : Below w0.heap.size w0 (w1.setCell ⟨gp, 17, none⟩ (.slice (some ⟨gb, 0, none⟩) (p.trigs.length + 1) cap1)) := hbl.setCell (p := ⟨gp, 17, none⟩) hog.2 _
  refine ⟨hpl.here rfl, hpl.soft 17, ok, rfl, fun hq => ?_, fun hq => ?_⟩
  ·have hzt : z = true := by have := HOk.u; rw [hq, Bool.and_eq_true] at this; exact this.1
   refine ⟨{ p with trigs := p.trigs ++ [t] }, G.cutY 10 s, .slice (some ⟨gb, 0, none⟩) (p.trigs.length + 1) cap1, ⟨HH.u.reads.next (.inr HS0.u) (by rw [HZ.u, hzt]) (by rw [HWo.u, HLm.u, htn hq]; rfl), ?_, ?_, hrd.other (fun e => HH.u.ne e.symm) _, ?_, HH.u.mb, hbz, ?_, ?_, ?_, HH.u.ne, HH.u.og⟩, G.cutY_less (c := 10) (s := s) (by rw [HZ.u, hzt])⟩
   ·exact hpl.put 17 _
   ·have h9 : G.OwnRow (fun b => w0.heap.size ≤ b ∧ b ≠ g ∧ b ≠ gp) w1 171 17 (.slice (some ⟨gb, 0, none⟩) (p.trigs.length + 1) cap1) (p.trigs.length + 1) (p.trigs.flatMap Trg.enc ++ Trg.enc t) := r1.mono (fun b _ hb => by
     rcases hb with hb | hb
     ·exact hb
     have := (HBl.u V hbV).size; exact ⟨by omega, by omega, by omega⟩)
    have h8 := h9.aside (p := ⟨gp, 17, none⟩) (h9.apartAt hpl (by decide)) (.slice (some ⟨gb, 0, none⟩) (p.trigs.length + 1) cap1)
    show G.OwnRow _ _ _ 17 _ (p.trigs ++ [t]).length ((p.trigs ++ [t]).flatMap Trg.enc)
    rw [List.length_append, List.flatMap_append]
    simpa using h8
   ·exact (hbz.cell (p := ⟨0, 0, none⟩) HH.u.mb).trans ((HH.u.below.cell (p := ⟨0, 0, none⟩) HH.u.mb).symm.trans HH.u.mx)
   ·have := G.cutY_less (c := 10) (s := s) (by rw [HZ.u, hzt]); have := HH.u.size; omega
   ·show (p.trigs ++ [t]).length ≤ i + 1
    have := HH.u.many; simp; omega
   intro u hu
   rcases List.mem_append.1 (show u ∈ p.trigs ++ [t] from hu) with hu | hu
   ·exact HH.u.fits u hu
   rw [List.mem_singleton.1 hu]; exact trigN_fits (htn hq)
  refine ⟨i + 1, G.cutY 10 s, ?_, hrd.other (fun e => HH.u.ne e.symm) _, hbz⟩
  cases hzz2 : z
  ·exact HH.u.reads.cut (.inr HS0.u) (by rw [HZ.u, hzz2])
  have hnone : trigN ws = none := by
   have := HOk.u; rw [hq, hzz2, Bool.true_and] at this
   cases hh : trigN ws
   ·rfl
   rw [hh] at this; cases this
  exact HH.u.reads.bad (.inr HS0.u) (by rw [HZ.u, hzz2]) (by rw [HWo.u, HLm.u, hnone]; rfl)))
 have hsm : ¬ 1 * i0.size > 2 ^ 24 := by rw [hz1]; decide
 have hpo : ¬ 1 * i0.size = 0 := by rw [hz1]; decide
 have HFill := J (show Instr.fill (fun i => some (i * i0.size, i0.size)) ((Array.range (1 * i0.size)).map ((Value.agg #[.int .i64 0, .int .i64 0, .int .i64 0, .int .u64 0, .int .u64 0, .int .u64 0, .int .u64 0, .int .u64 0, .bool false, .bool false, .int .u64 0, .int .u64 0, .int .u64 0, .int .u64 0, .int .u64 0, .bool false, .bool false]).cells[· % (Value.agg #[.int .i64 0, .int .i64 0, .int .i64 0, .int .u64 0, .int .u64 0, .int .u64 0, .int .u64 0, .int .u64 0, .bool false, .bool false, .int .u64 0, .int .u64 0, .int .u64 0, .int .u64 0, .int .u64 0, .bool false, .bool false]).cells.size]!)) [(0, .agg (trgA t))] = some (trgA t) by rw [hz1]; exact trig_fill t)
 clear hat htn hc6 hbw hb6 hp6 hr6 ho6 hmx6 HM
 as_aux_lemma =>
 go_upto_region 13 with fail
 refine wp_region_held_drew (S := fun _ => True) (by kernel_rfl) trivial (fun hS => ?_)
 clear hS
 change wpAnyH _ _ _ _ _ 11 #[false, false, false, false, false, false, false, false, false, false, false] _ (World.drew _)
 refine tq 0 (.pointer (some ⟨gp, 0, none⟩)) rfl (fun W hW => ?_) trivial ?_
 ·clear hW; go_simp
 simp only [Act.put, tkS]
 refine tq 1 (.pointer (some ⟨gp, 0, none⟩)) rfl (fun W hW => ?_) trivial ?_
 ·clear hW; go_simp
 simp only [Act.put, tkS]
 refine tq 2 (.pointer (some ⟨gp, 0, none⟩)) rfl (fun W hW => ?_) trivial ?_
 ·clear hW; go_simp
 simp only [Act.put, tkS]
 refine tq 3 (.pointer (some ⟨gp, 17, none⟩)) rfl (fun W hW => ?_) trivial ?_
 ·clear hW; go_simp
 simp only [Act.put, tkS]
 refine wpAnyH_ready (rs := [4, 5]) (by kernel_rfl) (by simp) (AllReadyH.cons rfl (fun K hK => ?_) (AllReadyH.cons rfl (fun K hK => ?_) AllReadyH.nil))
 ·go_simp
  refine hK.out _ _ trivial (fun hS => ?_)
  clear hS hK K
  refine wpAnyH_ready (rs := [5]) (by kernel_rfl) (by simp) (AllReadyH.cons rfl (fun K hK => ?_) AllReadyH.nil)
  refine step_load_row rfl 171 171 (.tmp 7) rfl gt rfl (trgA t) HAt.u _ Tryz.underlying171 rfl (by kernel_rfl) (hK.out _ _ trivial (fun hS => ?_))
  clear hS hK K
  refine wpAnyH_ready (rs := [6]) (by kernel_rfl) (by simp) (AllReadyH.cons rfl (fun K hK => ?_) AllReadyH.nil)
  refine step_bslice2 rfl 99 171 1 _ rfl [(0, .agg (trgA t))] rfl (trgA t) i0 (.agg #[.int .i64 0, .int .i64 0, .int .i64 0, .int .u64 0, .int .u64 0, .int .u64 0, .int .u64 0, .int .u64 0, .bool false, .bool false, .int .u64 0, .int .u64 0, .int .u64 0, .int .u64 0, .int .u64 0, .bool false, .bool false]) Tryz.underlying99 hi hz0 hsm hpo HFill.u (hK.out _ _ trivial (fun hS => ?_))
  clear hS hK K
  refine wpAnyH_ready (rs := [7]) (by kernel_rfl) (by simp) (AllReadyH.cons rfl (fun K hK => ?_) AllReadyH.nil)
  refine step_append_lies _ rfl (.tmp 51) (.tmp 53) 99 rfl 0 171 i0 (.agg #[.int .i64 0, .int .i64 0, .int .i64 0, .int .u64 0, .int .u64 0, .int .u64 0, .int .u64 0, .int .u64 0, .bool false, .bool false, .int .u64 0, .int .u64 0, .int .u64 0, .int .u64 0, .int .u64 0, .bool false, .bool false]) 17 120 Tryz.underlying99 hi hz0 hz1 hz2 rfl (by decide) v _ _ rfl (HO.u _ (by first | exact (Below.refl _ _).drew.alloc (Nat.le_refl _) _ | exact ((Below.refl _ _).alloc (Nat.le_refl _) _).drew | exact (Below.refl _ _).alloc (Nat.le_refl _) _)).owns ⟨W6.heap.size, 0, none⟩ 1 1 (Trg.enc t) rfl rfl (fun j u hu => by rw [Addr.add_lit, Nat.zero_add]; exact (show G.At _ W6.heap.size 171 (trgA t) by first | exact G.At.made _ _ _ | exact (G.At.made _ _ _).drew).here (by rw [trgA_enc, List.getElem?_toArray]; exact hu)) (enc_one t) (by decide) hm3.u hm4.u (Nat.zero_le _) _ rfl ?_
  intro gb cap1 w1 hown1 hg1 hl1 hl2
  obtain ⟨c9, f9, HF⟩ := HFin.u _ (by first | exact (Below.refl _ _).drew.alloc (Nat.le_refl _) _ | exact ((Below.refl _ _).alloc (Nat.le_refl _) _).drew | exact (Below.refl _ _).alloc (Nat.le_refl _) _) gb cap1 w1 hown1 hg1 hl1 hl2
  refine hK.out _ _ trivial (fun hS => ?_)
  clear hown1 hg1 hl1 hl2
  clear hS hK K
  refine tq 8 (.pointer (some ⟨gp, 0, none⟩)) rfl (fun W hW => ?_) trivial ?_
  ·clear hW; go_simp
  simp only [Act.put, tkS]
  refine tq 9 (.pointer (some ⟨gp, 17, none⟩)) rfl (fun W hW => ?_) trivial ?_
  ·clear hW; go_simp
  simp only [Act.put, tkS]
  refine wpAnyH_ready (rs := [10]) (by kernel_rfl) (by simp) (AllReadyH.cons rfl (fun K hK => ?_) AllReadyH.nil)
  go_simp
  refine hK.out _ _ trivial (fun hS => ?_)
  clear hS hK K
  refine wpAnyH_done (by kernel_rfl) ?_ _
  go_wp2_with fail
  go_ret
  exact HF
 refine step_load_row rfl 171 171 (.tmp 7) rfl gt rfl (trgA t) HAt.u _ Tryz.underlying171 rfl (by kernel_rfl) (hK.out _ _ trivial (fun hS => ?_))
 clear hS hK K
 refine wpAnyH_ready (rs := [4, 6]) (by kernel_rfl) (by simp) (AllReadyH.cons rfl (fun K hK => ?_) (AllReadyH.cons rfl (fun K hK => ?_) AllReadyH.nil))
 ·go_simp
  refine hK.out _ _ trivial (fun hS => ?_)
  clear hS hK K
  refine wpAnyH_ready (rs := [6]) (by kernel_rfl) (by simp) (AllReadyH.cons rfl (fun K hK => ?_) AllReadyH.nil)
  refine step_bslice2 rfl 99 171 1 _ rfl [(0, .agg (trgA t))] rfl (trgA t) i0 (.agg #[.int .i64 0, .int .i64 0, .int .i64 0, .int .u64 0, .int .u64 0, .int .u64 0, .int .u64 0, .int .u64 0, .bool false, .bool false, .int .u64 0, .int .u64 0, .int .u64 0, .int .u64 0, .int .u64 0, .bool false, .bool false]) Tryz.underlying99 hi hz0 hsm hpo HFill.u (hK.out _ _ trivial (fun hS => ?_))
  clear hS hK K
  refine wpAnyH_ready (rs := [7]) (by kernel_rfl) (by simp) (AllReadyH.cons rfl (fun K hK => ?_) AllReadyH.nil)
  refine step_append_lies _ rfl (.tmp 51) (.tmp 53) 99 rfl 0 171 i0 (.agg #[.int .i64 0, .int .i64 0, .int .i64 0, .int .u64 0, .int .u64 0, .int .u64 0, .int .u64 0, .int .u64 0, .bool false, .bool false, .int .u64 0, .int .u64 0, .int .u64 0, .int .u64 0, .int .u64 0, .bool false, .bool false]) 17 120 Tryz.underlying99 hi hz0 hz1 hz2 rfl (by decide) v _ _ rfl (HO.u _ (by first | exact (Below.refl _ _).drew.alloc (Nat.le_refl _) _ | exact ((Below.refl _ _).alloc (Nat.le_refl _) _).drew | exact (Below.refl _ _).alloc (Nat.le_refl _) _)).owns ⟨W6.heap.size, 0, none⟩ 1 1 (Trg.enc t) rfl rfl (fun j u hu => by rw [Addr.add_lit, Nat.zero_add]; exact (show G.At _ W6.heap.size 171 (trgA t) by first | exact G.At.made _ _ _ | exact (G.At.made _ _ _).drew).here (by rw [trgA_enc, List.getElem?_toArray]; exact hu)) (enc_one t) (by decide) hm3.u hm4.u (Nat.zero_le _) _ rfl ?_
  intro gb cap1 w1 hown1 hg1 hl1 hl2
  obtain ⟨c9, f9, HF⟩ := HFin.u _ (by first | exact (Below.refl _ _).drew.alloc (Nat.le_refl _) _ | exact ((Below.refl _ _).alloc (Nat.le_refl _) _).drew | exact (Below.refl _ _).alloc (Nat.le_refl _) _) gb cap1 w1 hown1 hg1 hl1 hl2
  refine hK.out _ _ trivial (fun hS => ?_)
  clear hown1 hg1 hl1 hl2
  clear hS hK K
  refine tq 8 (.pointer (some ⟨gp, 0, none⟩)) rfl (fun W hW => ?_) trivial ?_
  ·clear hW; go_simp
  simp only [Act.put, tkS]
  refine tq 9 (.pointer (some ⟨gp, 17, none⟩)) rfl (fun W hW => ?_) trivial ?_
  ·clear hW; go_simp
  simp only [Act.put, tkS]
  refine wpAnyH_ready (rs := [10]) (by kernel_rfl) (by simp) (AllReadyH.cons rfl (fun K hK => ?_) AllReadyH.nil)
  go_simp
  refine hK.out _ _ trivial (fun hS => ?_)
  clear hS hK K
  refine wpAnyH_done (by kernel_rfl) ?_ _
  go_wp2_with fail
  go_ret
  exact HF
 refine step_bslice2 rfl 99 171 1 _ rfl [(0, .agg (trgA t))] rfl (trgA t) i0 (.agg #[.int .i64 0, .int .i64 0, .int .i64 0, .int .u64 0, .int .u64 0, .int .u64 0, .int .u64 0, .int .u64 0, .bool false, .bool false, .int .u64 0, .int .u64 0, .int .u64 0, .int .u64 0, .int .u64 0, .bool false, .bool false]) Tryz.underlying99 hi hz0 hsm hpo HFill.u (hK.out _ _ trivial (fun hS => ?_))
 clear hS hK K
 refine wpAnyH_ready (rs := [4]) (by kernel_rfl) (by simp) (AllReadyH.cons rfl (fun K hK => ?_) AllReadyH.nil)
 go_simp
 refine hK.out _ _ trivial (fun hS => ?_)
 clear hS hK K
 refine wpAnyH_ready (rs := [7]) (by kernel_rfl) (by simp) (AllReadyH.cons rfl (fun K hK => ?_) AllReadyH.nil)
 refine step_append_lies _ rfl (.tmp 51) (.tmp 53) 99 rfl 0 171 i0 (.agg #[.int .i64 0, .int .i64 0, .int .i64 0, .int .u64 0, .int .u64 0, .int .u64 0, .int .u64 0, .int .u64 0, .bool false, .bool false, .int .u64 0, .int .u64 0, .int .u64 0, .int .u64 0, .int .u64 0, .bool false, .bool false]) 17 120 Tryz.underlying99 hi hz0 hz1 hz2 rfl (by decide) v _ _ rfl (HO.u _ (by first | exact (Below.refl _ _).drew.alloc (Nat.le_refl _) _ | exact ((Below.refl _ _).alloc (Nat.le_refl _) _).drew | exact (Below.refl _ _).alloc (Nat.le_refl _) _)).owns ⟨W6.heap.size, 0, none⟩ 1 1 (Trg.enc t) rfl rfl (fun j u hu => by rw [Addr.add_lit, Nat.zero_add]; exact (show G.At _ W6.heap.size 171 (trgA t) by first | exact G.At.made _ _ _ | exact (G.At.made _ _ _).drew).here (by rw [trgA_enc, List.getElem?_toArray]; exact hu)) (enc_one t) (by decide) hm3.u hm4.u (Nat.zero_le _) _ rfl ?_
 intro gb cap1 w1 hown1 hg1 hl1 hl2
 obtain ⟨c9, f9, HF⟩ := HFin.u _ (by first | exact (Below.refl _ _).drew.alloc (Nat.le_refl _) _ | exact ((Below.refl _ _).alloc (Nat.le_refl _) _).drew | exact (Below.refl _ _).alloc (Nat.le_refl _) _) gb cap1 w1 hown1 hg1 hl1 hl2
 refine hK.out _ _ trivial (fun hS => ?_)
 clear hown1 hg1 hl1 hl2
 clear hS hK K
 refine tq 8 (.pointer (some ⟨gp, 0, none⟩)) rfl (fun W hW => ?_) trivial ?_
 ·clear hW; go_simp
 simp only [Act.put, tkS]
 refine tq 9 (.pointer (some ⟨gp, 17, none⟩)) rfl (fun W hW => ?_) trivial ?_
 ·clear hW; go_simp
 simp only [Act.put, tkS]
 refine wpAnyH_ready (rs := [10]) (by kernel_rfl) (by simp) (AllReadyH.cons rfl (fun K hK => ?_) AllReadyH.nil)
 go_simp
 refine hK.out _ _ trivial (fun hS => ?_)
 clear hS hK K
 refine wpAnyH_done (by kernel_rfl) ?_ _
 go_wp2_with fail
 go_ret
 exact HF
end Go.Proofs.YtoidcbpcnikejaaGreatDoor
