/- Parts of this claim: ErrC, StbC, StbD, StbE. -/
import Derived.LaidEql
import Derived.Stop.Asserts
import Derived.RowKitTokens
import Derived.RegionTactic
import Derived.Deep.RegionLaw
import Derived.Deep.DeepCutAuto
import Derived.IntWalk
import Derived.Test.YtoidcbpcnikejaaGreatDoorProg
import Derived.Test.YtoidcbpcnikejaaGreatDoorDq01
set_option linter.unusedVariables false
set_option linter.unusedSimpArgs false
set_option maxRecDepth 100000
set_option maxHeartbeats 12800000
namespace Go.Proofs.YtoidcbpcnikejaaGreatDoor
open Go.RowKit Go.Extern.Stop Go.Stop Go.Extern
theorem errAs_nil (t : Value) (w : World) :
  Calls Tryz.prog 25 #[.nilIface, t] w fun e w' => e = .returned (.bool false) ∧ w' = w := by
 go_enter Tryz.func25, Tryz.ntmps25
 go_wp2
 go_ret
 exact ⟨rfl, rfl⟩
theorem asE.valueOf27 (t : Addr) (w : World) : (ReflectliteValue.unpack (.iface 52 (.pointer (some t)))).run Tryz.prog w
  = .ok (.agg #[.pointer (some ⟨7, 52, none⟩), .pointer (some ⟨w.heap.size, 0, none⟩), .int .u64 150]) (w.alloc (.cells #[.pointer (some t)] 52)) := by kernel_rfl
theorem asE.type27 (a : Addr) (w : World) : (ReflectliteValue.methodAny (ReflectliteValue.valueError "reflectlite.Value.Type" 0) (fun t _ _ _ => ReflectliteType.toType t) #[.agg #[.pointer (some ⟨7, 52, none⟩), .pointer (some a), .int .u64 150]]).run Tryz.prog w
  = .ok (.iface 113 (.agg #[.pointer (some ⟨7, 52, none⟩)])) w := by kernel_rfl
theorem asE.methodKind (h : Value) (w : World) : (Go.method 422 113 (.agg #[h]) "Kind").run Tryz.prog w = .ok (221, h) w := by kernel_rfl
theorem asE.kind27 (w : World) : ((ReflectliteType.abiMethod fun t => (fun a : Nat => Value.int IntKind.u8 (a : Int)) <$> Rtype.kind t) #[.pointer (some ⟨7, 52, none⟩)]).run Tryz.prog w = .ok (.int .u8 22) w := by kernel_rfl
theorem asE.kind25 (w : World) : ((ReflectliteType.abiMethod fun t => (fun a : Nat => Value.int IntKind.u8 (a : Int)) <$> Rtype.kind t) #[.pointer (some ⟨7, 50, none⟩)]).run Tryz.prog w = .ok (.int .u8 22) w := by kernel_rfl
theorem rlm (z : Sem Value) (f : TypeId → Addr → Nat → Nat → Sem Value) (v : Value) :
  ReflectliteValue.method z f #[v] = (do match ← ReflectliteValue.parts v with | none => z | some (t, a, fl) => f t a fl (fl % 32)) := rfl
theorem asE.parts27 (a : Addr) (w : World) : (ReflectliteValue.parts (.agg #[.pointer (some ⟨7, 52, none⟩), .pointer (some a), .int .u64 150])).run Tryz.prog w = .ok (some (52, a, 150)) w := by kernel_rfl
theorem asE.isNil27 (a p : Addr) (W : World) (ha : W.cell? a = some (.pointer (some p))) :
  (ReflectliteValue.method (ReflectliteValue.valueError "reflectlite.Value.IsNil" 0) ReflectliteValue.isNil #[.agg #[.pointer (some ⟨7, 52, none⟩), .pointer (some a), .int .u64 150]]).run Tryz.prog W = .ok (.bool false) W := by
 rw [rlm]
 simp only [Sem.run_bind, asE.parts27, Result.andThen]
 simp [ReflectliteValue.isNil, loadVar, isAgg, underlying, Tryz.underlying52, ha, Result.andThen]
theorem asE.methodElem (h : Value) (w : World) : (Go.method 422 113 (.agg #[h]) "Elem").run Tryz.prog w = .ok (232, .agg #[h]) w := by kernel_rfl
theorem asE.methodImplements (h : Value) (w : World) : (Go.method 422 113 (.agg #[h]) "Implements").run Tryz.prog w = .ok (233, .agg #[h]) w := by kernel_rfl
theorem asE.methodAssignableTo (h : Value) (w : World) : (Go.method 422 113 (.agg #[h]) "AssignableTo").run Tryz.prog w = .ok (230, .agg #[h]) w := by kernel_rfl
theorem asE.elem27 (w : World) : (ReflectliteType.method ReflectliteType.elem #[.agg #[.pointer (some ⟨7, 52, none⟩)]]).run Tryz.prog w = .ok (.iface 113 (.agg #[.pointer (some ⟨7, 50, none⟩)])) w := by kernel_rfl
theorem asE.implements25 (w : World) : (ReflectliteType.relation "Implements" ReflectliteType.implements_ #[.agg #[.pointer (some ⟨7, 50, none⟩)], .iface 113 (.agg #[.pointer (some ⟨7, 39, none⟩)])]).run Tryz.prog w = .ok (.bool true) w := by kernel_rfl
theorem asE.typeOf25 (v : Value) (w : World) : (ReflectliteType.typeOf #[.iface 50 v]).run Tryz.prog w = .ok (.iface 113 (.agg #[.pointer (some ⟨7, 50, none⟩)])) w := by kernel_rfl
theorem asE.assignable25 (w : World) : (ReflectliteType.relation "AssignableTo" ReflectliteType.assignableTo #[.agg #[.pointer (some ⟨7, 50, none⟩)], .iface 113 (.agg #[.pointer (some ⟨7, 50, none⟩)])]).run Tryz.prog w = .ok (.bool true) w := by kernel_rfl
theorem asE.valueOf25 (e : Addr) (w : World) : (ReflectliteValue.unpack (.iface 50 (.pointer (some e)))).run Tryz.prog w
  = .ok (.agg #[.pointer (some ⟨7, 50, none⟩), .pointer (some ⟨w.heap.size, 0, none⟩), .int .u64 150]) (w.alloc (.cells #[.pointer (some e)] 50)) := by kernel_rfl
theorem asE.elemOf27 (w : World) : (Rtype.elem? 52).run Tryz.prog w = .ok (some 50) w := by kernel_rfl
theorem asE.mk25 (p : Addr) (w : World) : (ReflectliteValue.mk 50 p ReflectliteValue.flagAddr).run Tryz.prog w = .ok (.agg #[.pointer (some ⟨7, 50, none⟩), .pointer (some p), .int .u64 406]) w := by kernel_rfl
theorem asE.elemV27 (a p : Addr) (W : World) (ha : W.cell? a = some (.pointer (some p))) :
  (ReflectliteValue.method (ReflectliteValue.valueError "reflectlite.Value.Elem" 0) ReflectliteValue.elem #[.agg #[.pointer (some ⟨7, 52, none⟩), .pointer (some a), .int .u64 150]]).run Tryz.prog W
   = .ok (.agg #[.pointer (some ⟨7, 50, none⟩), .pointer (some p), .int .u64 406]) W := by
 rw [rlm]
 simp only [Sem.run_bind, asE.parts27, Result.andThen]
 simp [ReflectliteValue.elem, loadVar, isAgg, underlying, Tryz.underlying52, ha, Result.andThen, asE.elemOf27, asE.mk25]
theorem rls (v x : Value) : ReflectliteValue.set #[v, x] = (do
  let (some (dst, a, fl), some (src, b, _)) := (← ReflectliteValue.parts v, ← ReflectliteValue.parts x)
   | unsupported (.noEntry "extern/(internal/reflectlite.Value).Set.zeroValue")
  if fl / ReflectliteValue.flagAddr % 2 == 0 then unsupported (.noEntry "extern/(internal/reflectlite.Value).Set.unaddressable")
  let val ← loadVar src b
  if ← Rtype.directlyAssignable dst src then storeVar dst a val
  else if ← Rtype.implements dst src then
   if (← Rtype.kind src) == 20 then
    match val with
    | .nilIface => unsupported (.noEntry "extern/reflectlite: a nil value of one interface type handed on as a value of another")
    | _ => storeVar dst a val
   else storeVar dst a (.iface src val)
  else panicString ("reflectlite.Set: value of type " ++ (← Rtype.spelt src) ++ " is not assignable to type " ++ (← Rtype.spelt dst))
  pure (.tuple #[])) := rfl
theorem asE.parts25a (a : Addr) (w : World) : (ReflectliteValue.parts (.agg #[.pointer (some ⟨7, 50, none⟩), .pointer (some a), .int .u64 406])).run Tryz.prog w = .ok (some (50, a, 406)) w := by kernel_rfl
theorem asE.parts25 (a : Addr) (w : World) : (ReflectliteValue.parts (.agg #[.pointer (some ⟨7, 50, none⟩), .pointer (some a), .int .u64 150])).run Tryz.prog w = .ok (some (50, a, 150)) w := by kernel_rfl
theorem asE.direct25 (w : World) : (Rtype.directlyAssignable 50 50).run Tryz.prog w = .ok true w := by kernel_rfl
theorem asE.set25 (ta b e : Addr) (old : Value) (W : World) (hb : W.cell? b = some (.pointer (some e))) (ht : W.cell? ta = some old) (hf : W.frozen? ta = false) :
  (ReflectliteValue.set #[.agg #[.pointer (some ⟨7, 50, none⟩), .pointer (some ta), .int .u64 406], .agg #[.pointer (some ⟨7, 50, none⟩), .pointer (some b), .int .u64 150]]).run Tryz.prog W
   = .ok (.tuple #[]) (W.setCell ta (.pointer (some e))) := by
 rw [rls]
 simp only [Sem.run_bind, asE.parts25a, asE.parts25, Result.andThen]
 simp [ReflectliteValue.flagAddr, loadVar, isAgg, underlying, Tryz.underlying50, hb, Result.andThen, asE.direct25, storeVar, Value.cells, storeCells, Addr.add]
 rw [run_store Tryz.prog W ta _ _ (by rfl)]
 simp [ht, hf]
theorem errAs_hit (e t : Addr) (old : Value) (w : World) (hg : w.cell? ⟨1, 0, none⟩ = some (.iface 113 (.agg #[.pointer (some ⟨7, 39, none⟩)]))) (ht0 : w.cell? t = some old) (hf0 : w.frozen? t = false) :
  Calls Tryz.prog 25 #[.iface 50 (.pointer (some e)), .iface 52 (.pointer (some t))] w fun ev w' => ev = .returned (.bool true) ∧ w' = ((((w.alloc (.cells #[.pointer (some t)] 52)).alloc (.cells #[.pointer (some ⟨7, 52, none⟩), .pointer (some ⟨w.heap.size, 0, none⟩), .int .u64 150] 68)).alloc (.cells #[.pointer (some ⟨7, 52, none⟩), .pointer (some ⟨w.heap.size, 0, none⟩), .int .u64 150] 68)).alloc (.cells #[.pointer (some e)] 50)).setCell t (.pointer (some e)) := by
 have h6 := @run_callFunc_extern Tryz.prog 39 _ (fun args => ReflectliteValue.unpack (args.getD 0 (.tuple #[]))) Tryz.func39 (by kernel_rfl) (by kernel_rfl) (by kernel_rfl) (by kernel_rfl)
 have h7 := @run_callFunc_extern Tryz.prog 40 _ (ReflectliteValue.methodAny (ReflectliteValue.valueError "reflectlite.Value.Type" 0) (fun t _ _ _ => ReflectliteType.toType t)) Tryz.func40 (by kernel_rfl) (by kernel_rfl) (by kernel_rfl) (by kernel_rfl)
 have h8 := @run_callFunc_extern Tryz.prog 41 _ (ReflectliteValue.method (ReflectliteValue.valueError "reflectlite.Value.IsNil" 0) ReflectliteValue.isNil) Tryz.func41 (by kernel_rfl) (by kernel_rfl) (by kernel_rfl) (by kernel_rfl)
 have h27 := @run_callFunc_extern Tryz.prog 221 _ (ReflectliteType.abiMethod fun t => do pure (.int .u8 (← Rtype.kind t))) Tryz.func221 (by kernel_rfl) (by kernel_rfl) (by kernel_rfl) (by kernel_rfl)
 have h37 := @run_callFunc_extern Tryz.prog 232 _ (ReflectliteType.method ReflectliteType.elem) Tryz.func232 (by kernel_rfl) (by kernel_rfl) (by kernel_rfl) (by kernel_rfl)
 have h38 := @run_callFunc_extern Tryz.prog 233 _ (ReflectliteType.relation "Implements" ReflectliteType.implements_) Tryz.func233 (by kernel_rfl) (by kernel_rfl) (by kernel_rfl) (by kernel_rfl)
 have h10 := @run_callFunc_extern Tryz.prog 61 _ ReflectliteType.typeOf Tryz.func61 (by kernel_rfl) (by kernel_rfl) (by kernel_rfl) (by kernel_rfl)
 have h35 := @run_callFunc_extern Tryz.prog 230 _ (ReflectliteType.relation "AssignableTo" ReflectliteType.assignableTo) Tryz.func230 (by kernel_rfl) (by kernel_rfl) (by kernel_rfl) (by kernel_rfl)
 have h11 := @run_callFunc_extern Tryz.prog 62 _ (ReflectliteValue.method (ReflectliteValue.valueError "reflectlite.Value.Elem" 0) ReflectliteValue.elem) Tryz.func62 (by kernel_rfl) (by kernel_rfl) (by kernel_rfl) (by kernel_rfl)
 have h12 := @run_callFunc_extern Tryz.prog 63 _ ReflectliteValue.set Tryz.func63 (by kernel_rfl) (by kernel_rfl) (by kernel_rfl) (by kernel_rfl)
 have tO := asE.typeOf25
 have mA := asE.methodAssignableTo
 have a25 := asE.assignable25
 have v25 := asE.valueOf25
 have f6 := asE.valueOf27
 have f7 := asE.type27
 have mK := asE.methodKind
 have mE := asE.methodElem
 have mI := asE.methodImplements
 have k27 := asE.kind27
 have k25 := asE.kind25
 have e27 := asE.elem27
 have i25 := asE.implements25
 have n8 := asE.isNil27 ⟨w.heap.size, 0, none⟩ t ((w.alloc (.cells #[.pointer (some t)] 52)).alloc (.cells #[.pointer (some ⟨7, 52, none⟩), .pointer (some ⟨w.heap.size, 0, none⟩), .int .u64 150] 68)) (by simp)
 have hlt : 1 < w.heap.size := World.block_lt_of_cell? w _ hg
 have hg2 : ((w.alloc (.cells #[.pointer (some t)] 52)).alloc (.cells #[.pointer (some ⟨7, 52, none⟩), .pointer (some ⟨w.heap.size, 0, none⟩), .int .u64 150] 68)).cell? ⟨1, 0, none⟩ = some (.iface 113 (.agg #[.pointer (some ⟨7, 39, none⟩)])) := by
  rw [World.cell?_alloc_lt _ _ ⟨1, 0, none⟩ (by simp; omega), World.cell?_alloc_lt _ _ ⟨1, 0, none⟩ hlt]; exact hg
 have htl : t.block < w.heap.size := by
  rcases Nat.lt_or_ge t.block w.heap.size with h | h
  ·exact h
  simp [World.cell?, Array.getElem?_eq_none h] at ht0
 have el := asE.elemV27 ⟨w.heap.size, 0, none⟩ t (((w.alloc (.cells #[.pointer (some t)] 52)).alloc (.cells #[.pointer (some ⟨7, 52, none⟩), .pointer (some ⟨w.heap.size, 0, none⟩), .int .u64 150] 68)).alloc (.cells #[.pointer (some ⟨7, 52, none⟩), .pointer (some ⟨w.heap.size, 0, none⟩), .int .u64 150] 68)) (by rw [World.cell?_alloc_lt _ _ ⟨w.heap.size, 0, none⟩ (by simp; omega)]; simp)
 have st := asE.set25 t ⟨w.heap.size + 1 + 1 + 1, 0, none⟩ e old ((((w.alloc (.cells #[.pointer (some t)] 52)).alloc (.cells #[.pointer (some ⟨7, 52, none⟩), .pointer (some ⟨w.heap.size, 0, none⟩), .int .u64 150] 68)).alloc (.cells #[.pointer (some ⟨7, 52, none⟩), .pointer (some ⟨w.heap.size, 0, none⟩), .int .u64 150] 68)).alloc (.cells #[.pointer (some e)] 50))
  (by rw [World.cell?_alloc_at _ _ _ _ (by simp)]; rfl)
  (by rw [World.cell?_alloc_lt _ _ t (by simp; omega), World.cell?_alloc_lt _ _ t (by simp; omega), World.cell?_alloc_lt _ _ t (by simp; omega), World.cell?_alloc_lt _ _ t htl]; exact ht0)
  (by rw [World.frozen?_alloc_old _ _ t (by simp; omega), World.frozen?_alloc_old _ _ t (by simp; omega), World.frozen?_alloc_old _ _ t (by simp; omega), World.frozen?_alloc_old _ _ t (Nat.ne_of_lt htl)]; exact hf0)
 go_enter Tryz.func25, Tryz.ntmps25
 go_wp2
 refine wp_loop_rounds 1 ?_
 rw [rounds_succ]
 go_wp2
 go_ret
 exact ⟨rfl, rfl⟩
open Go.RowKit
theorem stbClip (n : Int) (w : World) : Calls Tryz.prog 177 #[.int .i64 n] w fun e w' => e = .returned (.int .i64 (G.clipT n)) ∧ w' = w := by
 by_cases h0 : n < 0
 ·go_enter Tryz.func177, Tryz.ntmps177
  go_wp2_with fail
  go_ret
  exact ⟨ret_int (by unfold G.clipT; omega), rfl⟩
 have h1 : 0 ≤ n := by omega
 by_cases h2 : 100000 < n
 ·clear h0
  go_enter Tryz.func177, Tryz.ntmps177
  go_wp2_with fail
  go_ret
  exact ⟨ret_int (by unfold G.clipT; omega), rfl⟩
 have h3 : n ≤ 100000 := by omega
 clear h0 h2
 go_enter Tryz.func177, Tryz.ntmps177
 go_wp2_with fail
 go_ret
 exact ⟨ret_int (by unfold G.clipT; omega), rfl⟩
def paceV (p : G.Pace) : Value := .agg #[.int .i64 p.win, .int .i64 p.pods, .int .i64 p.pct, .int .i64 p.per]
theorem stbRight (p : G.Pace) (w : World) : Calls Tryz.prog 156 #[paceV p] w fun e w' => e = .returned (paceV p.fix) ∧ Below w.heap.size w w' := by
 unfold paceV
 go_enter Tryz.func156, Tryz.ntmps156
 go_wp2_with fail
 go_region_held3 (fun w' => w'.cell? ⟨w.heap.size, 0, none⟩ = some (.int .i64 p.win) ∧ w'.cell? ⟨w.heap.size, 1, none⟩ = some (.int .i64 p.pods) ∧ w'.cell? ⟨w.heap.size, 2, none⟩ = some (.int .i64 p.pct) ∧ w'.cell? ⟨w.heap.size, 3, none⟩ = some (.int .i64 p.per)) (go_keep) (first | (go_at_call 177; refine (stbClip _ _).mono ?_; rintro e w' ⟨rfl, rfl⟩))
 all_goals
  go_wp2_with fail
  refine bodyPost_ret (v := paceV p.fix) (by simp [results, Tryz.results156, go_sem, paceV, G.Pace.fix]) rfl ⟨rfl, ?_⟩
  exact (((Below.refl _ _).alloc (Nat.le_refl _) _).alloc (by simp) _).drew
def BehindPost (w : World) (l : List G.Mark) (at0 : Int) (e : Ending) (w' : World) : Prop := ∃ v', e = .returned v' ∧ G.ListIn w' 2 G.encM v' (G.behindL l at0) ∧ w = w'
theorem behind_list {w : World} {b off n cap i : Nat} {l : List G.Mark} (hc : ∀ (i : Nat) (a : G.Mark) (j : Nat) (u : Value), l[i]? = some a → (G.encM a)[j]? = some u → w.cell? ⟨b, off + i * 2 + j, none⟩ = some u) (hb : b < w.heap.size) (hn : l.length = n) (hi : i ≤ n) (hcap : n ≤ cap) :
  G.ListIn w 2 G.encM (.slice (if cap = i then some ⟨b, off, none⟩ else some ⟨b, off + i * 2, none⟩) (n - i) (cap - i)) (l.drop i) := by
 refine ⟨_, cap - i, by rw [List.length_drop, hn], fun h0 => ?_⟩
 rw [List.length_drop] at h0
 rw [if_neg (by omega)]
 refine ⟨b, off + i * 2, rfl, hb, fun k a j u hk hu => ?_⟩
 rw [List.getElem?_drop] at hk
 have := hc (i + k) a j u hk hu
 rw [show off + i * 2 + k * 2 + j = off + (i + k) * 2 + j by omega]
 exact this
theorem stbBehind (v : Value) (l : List G.Mark) (at0 : Int) (S : Nat → Prop) (w : World) (h : G.OwnRow S w 290 2 v l.length (l.flatMap G.encM)) (hl : l.length ≤ 1000000) :
  Calls Tryz.prog 203 #[v, .int .i64 at0] w (BehindPost w l at0) := by
 rcases h.2 with ⟨rfl, h0⟩ | ⟨b, cap, rfl, hS, hcap, hmax, hrow⟩
 ·have hz : l = [] := List.length_eq_zero_iff.1 h0
  subst hz
  have HF := J (show BehindPost w [] at0 (.returned (.slice none 0 0)) w from ⟨_, rfl, ⟨none, 0, rfl, fun h => by simp [G.behindL] at h⟩, rfl⟩)
  clear h h0
  go_enter Tryz.func203, Tryz.ntmps203
  go_wp2_with fail
  go_loop [5] (fun i => i = .int .i64 0) (fun _ => 0)
  case atStart => rfl
  subst hrel
  go_wp2_with fail
  go_ret
  exact HF.u
 obtain ⟨k0, rfl⟩ : ∃ m, cap = m := ⟨_, rfl⟩
 have hm : cap ≤ 9223372036854775807 := hmax
 have HR := J hrow
 have hbw := hrow.inside
 clear h hrow hmax
 go_enter Tryz.func203, Tryz.ntmps203
 go_wp2_with fail
 go_loop [5] (fun i => ∃ k : Nat, k ≤ l.length ∧ i = .int .i64 k ∧ Hid (∀ m ∈ l.drop k, at0 < m.1)) (fun i => (intOf i).toNat)
 case atStart => exact ⟨l.length, Nat.le_refl _, rfl, by simp [Hid]⟩
 obtain ⟨k, hk, rfl, hall⟩ := hrel
 by_cases hz : k = 0
 ·subst hz
  have HF := J (show BehindPost w l at0 (.returned (.slice (some ⟨b, 0, none⟩) l.length cap)) w from ⟨_, rfl, by
   rw [G.behind_eq (Nat.zero_le _) hall.u (.inl rfl), List.drop_zero]
   exact ⟨_, cap, rfl, fun _ => ⟨b, 0, rfl, hbw, fun i a j u h1 h2 => by rw [Nat.zero_add]; exact HR.u.cell (G.flat_get G.encM_length h1 h2)⟩⟩, rfl⟩)
  go_wp2_with fail
  go_ret
  exact HF.u
 obtain ⟨m, hm1⟩ := G.get_some l (show k - 1 < l.length by omega)
 have c0 := HR.u.cell (G.flat_get (j := 0) G.encM_length hm1 rfl)
 obtain ⟨q, rfl⟩ : ∃ q, k = q + 1 := ⟨k - 1, by omega⟩
 rw [Nat.add_sub_cancel] at c0 hm1
 simp only [Nat.add_zero] at c0
 have i0 : (0 : Int) ≤ (q : Int) := by omega
 have i1 : (q : Int) < (l.length : Int) := by omega
 have HM := J hm1
 clear hm1 hz
 by_cases hat : at0 < m.1
 ·have HN := J (show ∀ m' ∈ l.drop q, at0 < m'.1 from fun m' hm' => by
   rw [G.drop_of_get HM.u] at hm'
   rcases List.mem_cons.1 hm' with e | e
   ·subst e; exact hat
   exact hall.u m' e)
  clear hall
  go_wp2_with fail
  go_round
  case rel => exact ⟨q, by omega, by go_num, HN⟩
  case measure => simp [intOf] <;> omega
 have hle : m.1 ≤ at0 := by omega
 have e := J (G.behind_eq hk hall.u (.inr ⟨m, by rw [Nat.add_sub_cancel]; exact HM.u, hle⟩))
 have HF := J (show BehindPost w l at0 (.returned (.slice (if cap = q + 1 then some ⟨b, 0, none⟩ else some ⟨b, 0 + (q + 1) * 2, none⟩) (l.length - (q + 1)) (cap - (q + 1)))) w from ⟨_, rfl, by
  rw [e.u]
  exact behind_list (fun i a j u h1 h2 => by rw [Nat.zero_add]; exact HR.u.cell (G.flat_get G.encM_length h1 h2)) hbw rfl hk hcap, rfl⟩)
 rw [Nat.zero_add] at HF
 have q1 : q + 1 ≤ cap := by omega
 have q2 : (0 : Int) ≤ (q : Int) + 1 := by omega
 have q3 : (q : Int) + 1 ≤ (l.length : Int) := by omega
 clear hall hat
 by_cases hcc : cap = q + 1
 ·subst hcc
  rw [if_pos rfl, show l.length - (q + 1) = 0 by omega, Nat.sub_self] at HF
  go_wp2_with fail
  go_ret
  exact HF.u
 rw [if_neg hcc] at HF
 go_wp2_with fail
 go_ret
 exact HF.u
theorem stbLimited (p : G.Pace) (w : World) : Calls Tryz.prog 204 #[.agg #[.int .i64 p.win, .int .i64 p.pods, .int .i64 p.pct, .int .i64 p.per]] w fun e w' => e = .returned (.bool p.limited) ∧ Below w.heap.size w w' := by
 have hb := fun o => ((Below.refl _ w).alloc (Nat.le_refl _) o)
 have HB := J hb
 clear hb
 by_cases h0 : 0 < p.per
 ·by_cases h1 : 0 < p.pods
  ·go_enter Tryz.func204, Tryz.ntmps204
   go_wp2_with fail
   go_ret
   exact ⟨by simp [G.Pace.limited, h0, h1], HB.u _⟩
  have h1' : p.pods ≤ 0 := by omega
  by_cases h2 : 0 < p.pct
  ·go_enter Tryz.func204, Tryz.ntmps204
   go_wp2_with fail
   go_ret
   exact ⟨by simp [G.Pace.limited, h0, h1, h2], HB.u _⟩
  have h2' : p.pct ≤ 0 := by omega
  go_enter Tryz.func204, Tryz.ntmps204
  go_wp2_with fail
  go_ret
  exact ⟨by simp [G.Pace.limited, h0, h1, h2], HB.u _⟩
 have h0' : p.per ≤ 0 := by omega
 go_enter Tryz.func204, Tryz.ntmps204
 go_wp2_with fail
 go_ret
 exact ⟨by simp [G.Pace.limited]; omega, HB.u _⟩
structure StbAt (T TM : TypeId) (S : Nat → Prop) (w : World) (g : Nat) (s : G.Stb) (vw vm : Value) : Prop where
 head : G.At w g T #[.int .i64 s.up.win, .int .i64 s.up.pods, .int .i64 s.up.pct, .int .i64 s.up.per, .int .i64 s.down.win, .int .i64 s.down.pods, .int .i64 s.down.pct, .int .i64 s.down.per, .int .i64 s.last, vw, vm]
 wan : G.OwnRow S w TM 2 vw s.wanted.length (s.wanted.flatMap G.encM)
 mov : G.OwnRow S w TM 2 vm s.moved.length (s.moved.flatMap G.encM)
 apart : ∀ b, vw.ownBlock = some b → vm.ownBlock ≠ some b
 own : S g
 lim : ∀ b, S b → b < w.heap.size
theorem StbAt.chg {T TM : TypeId} {S C : Nat → Prop} {w w' : World} {g : Nat} {s : G.Stb} {vw vm : Value} (h : StbAt T TM S w g s vw vm) (hc : G.Chg C w w') (hs : ∀ b, S b → ¬ C b) : StbAt T TM S w' g s vw vm :=
 ⟨h.head.chg hc (hs g h.own), h.wan.chg hc hs, h.mov.chg hc hs, h.apart, h.own, fun b hb => Nat.lt_of_lt_of_le (h.lim b hb) hc.size⟩
theorem StbAt.below {T TM : TypeId} {S : Nat → Prop} {w w' : World} {g : Nat} {s : G.Stb} {vw vm : Value} (h : StbAt T TM S w g s vw vm) (hb : Below w.heap.size w w') : StbAt T TM S w' g s vw vm :=
 h.chg (C := fun _ => False) (G.Chg.of_below hb (Nat.le_refl _)) (fun _ _ h => h)
theorem mark_at {w wr : World} {v : Value} {l : List G.Mark} (h : G.ListIn w 2 G.encM v l) (hb : Below w.heap.size w wr) {k : Nat} {m : G.Mark} (hk : l[k]? = some m) :
  ∃ b off cap, v = .slice (some ⟨b, off, none⟩) l.length cap ∧ wr.cell? ⟨b, off + k * 2, none⟩ = some (.int .i64 m.1) ∧ wr.cell? ⟨b, off + k * 2 + 1, none⟩ = some (.int .i64 m.2) := by
 obtain ⟨A, cap, rfl, hA⟩ := h
 obtain ⟨b, off, rfl, hlt, hc⟩ := hA (by have := G.get_lt hk; omega)
 exact ⟨b, off, cap, rfl, (hb.cell (p := ⟨b, off + k * 2, none⟩) hlt).trans (hc k m 0 _ hk rfl), (hb.cell (p := ⟨b, off + k * 2 + 1, none⟩) hlt).trans (hc k m 1 _ hk rfl)⟩
theorem list_slice {α : Type} {enc : α → List Value} {k : Nat} {w : World} {v : Value} {l : List α} (h : G.ListIn w k enc v l) : ∃ A cap, v = .slice A l.length cap := by
 obtain ⟨A, cap, e, _⟩ := h; exact ⟨A, cap, e⟩
open Go.RowKit
def LongPost (w : World) (n : Int) (e : Ending) (w' : World) : Prop := e = .returned (.int .i64 n) ∧ Below w.heap.size w w'
theorem stbMore (S : Nat → Prop) (g : Nat) (s : G.Stb) (vw vm : Value) (now have0 want : Int) (w : World) (j : Nat) (h : StbAt 257 290 S w g s vw vm) (hs : s.ok j) (hj : j ≤ 300000) (n0 : 0 ≤ now) (n1 : now ≤ 1099511627776) (h0 : 0 ≤ have0) (h1 : have0 ≤ 50) (w0 : 0 ≤ want) (w1 : want ≤ 50) :
  Calls Tryz.prog 193 #[.pointer (some ⟨g, 0, none⟩), .int .i64 now, .int .i64 have0, .int .i64 want] w (LongPost w (G.moreN s now have0 want)) := by
 obtain ⟨⟨u0, u1⟩, ⟨u2, u3⟩, ⟨u4, u5⟩, ⟨u6, u7⟩⟩ := hs.up
 have c0 := h.head.here (i := 0) rfl
 have c3 : w.cell? ⟨g, 9, none⟩ = some vw := h.head.here rfl
 have HH := J h; have HS := J hs
 have e1 : IntKind.i64.wrap (now - s.up.win) = now - s.up.win := IntWalk.i64_in _ (by omega)
 clear h hs
 go_enter Tryz.func193, Tryz.ntmps193
 go_wp2_with fail
 go_region_held3 (fun w' => w'.cell? ⟨g, 0, none⟩ = some (.int .i64 s.up.win) ∧ w'.cell? ⟨g, 9, none⟩ = some vw) (go_keep) (first | (go_at_call 203; refine (stbBehind vw s.wanted _ S _ HH.u.wan.drew (by have := HS.u.wlen; omega)).mono ?_; rintro e w' ⟨v1, rfl, hl1, rfl⟩; obtain ⟨A1, cap1, rfl⟩ := list_slice hl1))
 all_goals
  have HL := J hl1
  have hLen : (G.behindL s.wanted (now - s.up.win)).length ≤ 300000 := by have := G.behindL_length s.wanted (now - s.up.win); have := HS.u.wlen; omega
  have hMem := J (fun m hm => (HS.u.wan m (G.behindL_mem (l := s.wanted) (at0 := now - s.up.win) m hm)).1)
  obtain ⟨L, hL⟩ : ∃ L, G.behindL s.wanted (now - s.up.win) = L := ⟨_, rfl⟩
  rw [hL] at HL hLen hMem ⊢
  have HLe := J hL
  clear hl1 c0 c3 e1 hL
  go_wp2_with fail
  go_loopw [3, 30] (fun x3 i wr => ∃ k : Nat, k ≤ L.length ∧ i = .int .i64 k ∧ x3 = .int .i64 (G.minAll (L.take k) want) ∧ Below w.heap.size w wr) (fun _ i _ => L.length - (intOf i).toNat)
  case atStart => exact ⟨0, by omega, rfl, rfl, (Below.refl _ _).drew⟩
  obtain ⟨k, hk, rfl, rfl, hb⟩ := hrel
  by_cases hlt : k < L.length
  ·obtain ⟨m, hm⟩ := G.get_some L hlt
   obtain ⟨b, off, cap', e, d0, d1⟩ := mark_at (w := w.drew) HL.u (wr := wr) ⟨hb.os, hb.tape, hb.output, hb.size, hb.block⟩ hm
   cases e
   have i0 : (0 : Int) ≤ (k : Int) := by omega
   have i1 : (k : Int) < (L.length : Int) := by omega
   have HF := J (G.fold_snoc (f := fun (a : Int) (m : G.Mark) => min a m.2) (x := want) hm)
   change Hid (G.minAll (L.take (k + 1)) want = min (G.minAll (L.take k) want) m.2) at HF
   generalize G.minAll (L.take k) want = a at HF ⊢
   have HB := J (hb.alloc hb.size (.cells #[.int .i64 m.1, .int .i64 m.2] 290))
   clear hb hm
   by_cases hc : m.2 < a
   ·go_wp2_with fail
    go_roundw
    case rel => exact ⟨k + 1, by omega, by go_num, by rw [HF.u, show min a m.2 = m.2 by omega], HB.u⟩
    case measure => simp [intOf]; omega
   have hc' : a ≤ m.2 := by omega
   go_wp2_with fail
   go_roundw
   case rel => exact ⟨k + 1, by omega, by go_num, by rw [HF.u, show min a m.2 = a by omega], HB.u⟩
   case measure => simp [intOf]; omega
  have hke : k = L.length := by omega
  subst hke
  rw [List.take_length]
  have hmb := G.minAll_bd L want w0 w1 hMem.u
  have HM1 := J (show G.moreN s now have0 want = max (if s.up.limited then min (G.minAll L want) (G.baseUp s now have0 + max s.up.pods (G.ceilc (G.baseUp s now have0 * s.up.pct) 100)) else G.minAll L want) have0 by unfold G.moreN; rw [HLe.u])
  generalize G.minAll L want = a at HM1 hmb ⊢
  obtain ⟨a0, a1⟩ := hmb
  have h2 := HH.u.below hb
  have d0 := h2.head.here (i := 0) rfl; have d1 := h2.head.here (i := 1) rfl; have d2 := h2.head.here (i := 2) rfl; have d3 := h2.head.here (i := 3) rfl
  have H2 := J h2; have HB := J hb
  clear h2 hb
  go_wp2_with fail
  refine (stbLimited s.up _).mono ?_
  rintro e w2 ⟨rfl, hb2⟩
  have hB2 := HB.u.trans (hb2.mono HB.u.size)
  have h3 := HH.u.below hB2
  clear d0 d1 d2 d3 hb2
  cases hlim : s.up.limited
  ·have HF := J (show LongPost w (G.moreN s now have0 want) (.returned (.int .i64 (max a have0))) w2 from ⟨by rw [HM1.u, hlim]; rfl, hB2⟩)
   clear h3 hB2 hlim
   by_cases hc : a < have0
   ·rw [show max a have0 = have0 by omega] at HF
    go_wp2_with fail
    go_ret
    exact HF.u
   rw [show max a have0 = a by omega] at HF
   have hc' : have0 ≤ a := by omega
   go_wp2_with fail
   go_ret
   exact HF.u
  have d3 := h3.head.here (i := 3) rfl
  have d10 : w2.cell? ⟨g, 10, none⟩ = some vm := h3.head.here rfl
  have H3 := J h3; have HB2 := J hB2
  have e1 : IntKind.i64.wrap (now - s.up.per) = now - s.up.per := IntWalk.i64_in _ (by omega)
  have HLM := J hlim
  clear h3 hB2 hlim
  go_wp2_with fail
  go_region_held3 (fun w' => w'.cell? ⟨g, 3, none⟩ = some (.int .i64 s.up.per) ∧ w'.cell? ⟨g, 10, none⟩ = some vm) (go_keep) (first | (go_at_call 203; refine (stbBehind vm s.moved _ S _ H3.u.mov.drew (by have := HS.u.mlen; omega)).mono ?_; rintro e w' ⟨v2, rfl, hl2, rfl⟩; obtain ⟨A2, cap2, rfl⟩ := list_slice hl2))
  all_goals
   have HL2 := J hl2
   have hLen2 : (G.behindL s.moved (now - s.up.per)).length ≤ 300000 := by have := G.behindL_length s.moved (now - s.up.per); have := HS.u.mlen; omega
   have hMem2 := J (fun m hm => (HS.u.mov m (G.behindL_mem (l := s.moved) (at0 := now - s.up.per) m hm)).1)
   obtain ⟨M, hM⟩ : ∃ M, G.behindL s.moved (now - s.up.per) = M := ⟨_, rfl⟩
   rw [hM] at HL2 hLen2 hMem2 ⊢
   have HMe := J hM
   clear hl2 d3 d10 e1 hM
   go_wp2_with fail
   go_loopw [11, 57] (fun x3 i wr => ∃ k : Nat, k ≤ M.length ∧ i = .int .i64 k ∧ x3 = .int .i64 (G.sumUp (M.take k) 0) ∧ Below w2.heap.size w2 wr) (fun _ i _ => M.length - (intOf i).toNat)
   case atStart => exact ⟨0, by omega, rfl, rfl, (Below.refl _ _).drew⟩
   obtain ⟨k, hk, rfl, rfl, hb⟩ := hrel
   by_cases hlt : k < M.length
   ·obtain ⟨m, hm⟩ := G.get_some M hlt
    obtain ⟨b, off, cap', e, d0, d1⟩ := mark_at (w := w2.drew) HL2.u (wr := wr) ⟨hb.os, hb.tape, hb.output, hb.size, hb.block⟩ hm
    cases e
    have i0 : (0 : Int) ≤ (k : Int) := by omega
    have i1 : (k : Int) < (M.length : Int) := by omega
    have hmb := hMem2.u m (List.mem_of_getElem? hm)
    have hsb := G.sumUp_bd (M.take k) 0 (fun m hm => hMem2.u m (List.mem_of_mem_take hm))
    have hkl : ((M.take k).length : Int) ≤ 300000 := by rw [List.length_take]; omega
    have HF := J (G.fold_snoc (f := fun (a : Int) (m : G.Mark) => a + max m.2 0) (x := 0) hm)
    change Hid (G.sumUp (M.take (k + 1)) 0 = G.sumUp (M.take k) 0 + max m.2 0) at HF
    generalize G.sumUp (M.take k) 0 = t at HF hsb ⊢
    have t0 : 0 ≤ t := hsb.1
    have t1 : t ≤ 15000000 := by omega
    obtain ⟨m0, m1⟩ := hmb
    have HB := J (hb.alloc hb.size (.cells #[.int .i64 m.1, .int .i64 m.2] 290))
    clear hb hm hsb hkl
    by_cases hc : m.2 < 0
    ·go_wp2_with fail
     go_roundw
     case rel => exact ⟨k + 1, by omega, by go_num, by rw [HF.u, show t + max m.2 0 = t by omega], HB.u⟩
     case measure => simp [intOf]; omega
    have hc' : 0 ≤ m.2 := by omega
    go_wp2_with fail
    go_roundw
    case rel => exact ⟨k + 1, by omega, by go_num, by rw [HF.u, show t + max m.2 0 = t + m.2 by omega], HB.u⟩
    case measure => simp [intOf]; omega
   have hke : k = M.length := by omega
   subst hke
   rw [List.take_length]
   have hsb := G.sumUp_bd M 0 hMem2.u
   have HBu := J (show G.baseUp s now have0 = max (have0 - G.sumUp M 0) 0 by unfold G.baseUp; rw [HMe.u])
   generalize G.sumUp M 0 = t at HBu hsb ⊢
   have t0 : 0 ≤ t := hsb.1
   have t1 : t ≤ 15000000 := by omega
   have HB3 := J (HB2.u.trans (hb.mono HB2.u.size))
   have h4 := H3.u.below hb
   have d1 := h4.head.here (i := 1) rfl
   have d2 := h4.head.here (i := 2) rfl
   clear hb h4 hsb
   go_upto_region 13 with fail
   go_cut [14] (fun s14 wx => s14 = .int .i64 (max (have0 - t) 0) ∧ wx = wr)
   case first =>
    by_cases hc : have0 - t < 0
    ·go_wp2_with fail
     go_meet
     exact ⟨by rw [show max (have0 - t) 0 = 0 by omega], rfl⟩
    have hc' : 0 ≤ have0 - t := by omega
    go_wp2_with fail
    go_meet
    exact ⟨by rw [show max (have0 - t) 0 = have0 - t by omega], rfl⟩
   obtain ⟨rfl, rfl⟩ := hcut
   have B0 : 0 ≤ max (have0 - t) 0 := by omega
   have B1 : max (have0 - t) 0 ≤ 50 := by omega
   generalize max (have0 - t) 0 = B at HBu B0 B1 ⊢
   obtain ⟨q0, q1⟩ := G.mul_bd B0 B1 u4 u5
   have q2 : B * s.up.pct ≤ 15000000 := by omega
   clear q1
   go_wp2_with fail
   refine (numCeil_yes _ _ _ (by omega)).mono ?_
   rintro e w' ⟨rfl, rfl⟩
   obtain ⟨z0, z1⟩ := G.ceilc_bd (B * s.up.pct)
   have HFn := J (show ∀ x, x = max (min a (B + max s.up.pods (G.ceilc (B * s.up.pct) 100))) have0 → LongPost w (G.moreN s now have0 want) (.returned (.int .i64 x)) _ from fun x hx => ⟨by rw [HM1.u, HLM.u, HBu.u, hx]; rfl, HB3.u⟩)
   generalize G.ceilc (B * s.up.pct) 100 = C at HFn z0 z1 ⊢
   clear HM1 HBu q0 q2
   go_wp2_with fail
   all_goals
    go_ret
    exact HFn.u _ (by omega)
open Go.RowKit
theorem stbFewer (S : Nat → Prop) (g : Nat) (s : G.Stb) (vw vm : Value) (now have0 want : Int) (w : World) (j : Nat) (h : StbAt 257 290 S w g s vw vm) (hs : s.ok j) (hj : j ≤ 300000) (n0 : 0 ≤ now) (n1 : now ≤ 1099511627776) (h0 : 0 ≤ have0) (h1 : have0 ≤ 50) (w0 : 0 ≤ want) (w1 : want ≤ 50) :
  Calls Tryz.prog 194 #[.pointer (some ⟨g, 0, none⟩), .int .i64 now, .int .i64 have0, .int .i64 want] w (LongPost w (G.fewerN s now have0 want)) := by
 obtain ⟨⟨u0, u1⟩, ⟨u2, u3⟩, ⟨u4, u5⟩, ⟨u6, u7⟩⟩ := hs.down
 have c0 := h.head.here (i := 4) rfl
 have c3 : w.cell? ⟨g, 9, none⟩ = some vw := h.head.here rfl
 have HH := J h; have HS := J hs
 have e1 : IntKind.i64.wrap (now - s.down.win) = now - s.down.win := IntWalk.i64_in _ (by omega)
 clear h hs
 go_enter Tryz.func194, Tryz.ntmps194
 go_wp2_with fail
 go_region_held3 (fun w' => w'.cell? ⟨g, 4, none⟩ = some (.int .i64 s.down.win) ∧ w'.cell? ⟨g, 9, none⟩ = some vw) (go_keep) (first | (go_at_call 203; refine (stbBehind vw s.wanted _ S _ HH.u.wan.drew (by have := HS.u.wlen; omega)).mono ?_; rintro e w' ⟨v1, rfl, hl1, rfl⟩; obtain ⟨A1, cap1, rfl⟩ := list_slice hl1))
 all_goals
  have HL := J hl1
  have hLen : (G.behindL s.wanted (now - s.down.win)).length ≤ 300000 := by have := G.behindL_length s.wanted (now - s.down.win); have := HS.u.wlen; omega
  have hMem := J (fun m hm => (HS.u.wan m (G.behindL_mem (l := s.wanted) (at0 := now - s.down.win) m hm)).1)
  obtain ⟨L, hL⟩ : ∃ L, G.behindL s.wanted (now - s.down.win) = L := ⟨_, rfl⟩
  rw [hL] at HL hLen hMem ⊢
  have HLe := J hL
  clear hl1 c0 c3 e1 hL
  go_wp2_with fail
  go_loopw [3, 27] (fun x3 i wr => ∃ k : Nat, k ≤ L.length ∧ i = .int .i64 k ∧ x3 = .int .i64 (G.maxAll (L.take k) want) ∧ Below w.heap.size w wr) (fun _ i _ => L.length - (intOf i).toNat)
  case atStart => exact ⟨0, by omega, rfl, rfl, (Below.refl _ _).drew⟩
  obtain ⟨k, hk, rfl, rfl, hb⟩ := hrel
  by_cases hlt : k < L.length
  ·obtain ⟨m, hm⟩ := G.get_some L hlt
   obtain ⟨b, off, cap', e, d0, d1⟩ := mark_at (w := w.drew) HL.u (wr := wr) ⟨hb.os, hb.tape, hb.output, hb.size, hb.block⟩ hm
   cases e
   have i0 : (0 : Int) ≤ (k : Int) := by omega
   have i1 : (k : Int) < (L.length : Int) := by omega
   have HF := J (G.fold_snoc (f := fun (a : Int) (m : G.Mark) => max a m.2) (x := want) hm)
   change Hid (G.maxAll (L.take (k + 1)) want = max (G.maxAll (L.take k) want) m.2) at HF
   generalize G.maxAll (L.take k) want = a at HF ⊢
   have HB := J (hb.alloc hb.size (.cells #[.int .i64 m.1, .int .i64 m.2] 290))
   clear hb hm
   by_cases hc : a < m.2
   ·go_wp2_with fail
    go_roundw
    case rel => exact ⟨k + 1, by omega, by go_num, by rw [HF.u, show max a m.2 = m.2 by omega], HB.u⟩
    case measure => simp [intOf]; omega
   have hc' : m.2 ≤ a := by omega
   go_wp2_with fail
   go_roundw
   case rel => exact ⟨k + 1, by omega, by go_num, by rw [HF.u, show max a m.2 = a by omega], HB.u⟩
   case measure => simp [intOf]; omega
  have hke : k = L.length := by omega
  subst hke
  rw [List.take_length]
  have hmb := G.maxAll_bd L want w0 w1 hMem.u
  have HM1 := J (show G.fewerN s now have0 want = min (if s.down.limited then max (G.maxAll L want) (G.baseDown s now have0 - max s.down.pods (G.sharec (G.baseDown s now have0) (10 * s.down.pct))) else G.maxAll L want) have0 by unfold G.fewerN; rw [HLe.u])
  generalize G.maxAll L want = a at HM1 hmb ⊢
  obtain ⟨a0, a1⟩ := hmb
  have h2 := HH.u.below hb
  have d0 := h2.head.here (i := 4) rfl; have d1 := h2.head.here (i := 5) rfl; have d2 := h2.head.here (i := 6) rfl; have d3 := h2.head.here (i := 7) rfl
  have H2 := J h2; have HB := J hb
  clear h2 hb
  go_wp2_with fail
  refine (stbLimited s.down _).mono ?_
  rintro e w2 ⟨rfl, hb2⟩
  have hB2 := HB.u.trans (hb2.mono HB.u.size)
  have h3 := HH.u.below hB2
  clear d0 d1 d2 d3 hb2
  cases hlim : s.down.limited
  ·have HF := J (show LongPost w (G.fewerN s now have0 want) (.returned (.int .i64 (min a have0))) w2 from ⟨by rw [HM1.u, hlim]; rfl, hB2⟩)
   clear h3 hB2 hlim
   by_cases hc : have0 < a
   ·rw [show min a have0 = have0 by omega] at HF
    go_wp2_with fail
    go_ret
    exact HF.u
   rw [show min a have0 = a by omega] at HF
   have hc' : a ≤ have0 := by omega
   go_wp2_with fail
   go_ret
   exact HF.u
  have d3 := h3.head.here (i := 7) rfl
  have d10 : w2.cell? ⟨g, 10, none⟩ = some vm := h3.head.here rfl
  have H3 := J h3; have HB2 := J hB2
  have e1 : IntKind.i64.wrap (now - s.down.per) = now - s.down.per := IntWalk.i64_in _ (by omega)
  have HLM := J hlim
  clear h3 hB2 hlim
  go_wp2_with fail
  go_region_held3 (fun w' => w'.cell? ⟨g, 7, none⟩ = some (.int .i64 s.down.per) ∧ w'.cell? ⟨g, 10, none⟩ = some vm) (go_keep) (first | (go_at_call 203; refine (stbBehind vm s.moved _ S _ H3.u.mov.drew (by have := HS.u.mlen; omega)).mono ?_; rintro e w' ⟨v2, rfl, hl2, rfl⟩; obtain ⟨A2, cap2, rfl⟩ := list_slice hl2))
  all_goals
   have HL2 := J hl2
   have hLen2 : (G.behindL s.moved (now - s.down.per)).length ≤ 300000 := by have := G.behindL_length s.moved (now - s.down.per); have := HS.u.mlen; omega
   have hMem2 := J (fun m hm => (HS.u.mov m (G.behindL_mem (l := s.moved) (at0 := now - s.down.per) m hm)).1)
   obtain ⟨M, hM⟩ : ∃ M, G.behindL s.moved (now - s.down.per) = M := ⟨_, rfl⟩
   rw [hM] at HL2 hLen2 hMem2 ⊢
   have HMe := J hM
   clear hl2 d3 d10 e1 hM
   go_wp2_with fail
   go_loopw [11, 55] (fun x3 i wr => ∃ k : Nat, k ≤ M.length ∧ i = .int .i64 k ∧ x3 = .int .i64 (G.sumDown (M.take k) have0) ∧ Below w2.heap.size w2 wr) (fun _ i _ => M.length - (intOf i).toNat)
   case atStart => exact ⟨0, by omega, rfl, rfl, (Below.refl _ _).drew⟩
   obtain ⟨k, hk, rfl, rfl, hb⟩ := hrel
   by_cases hlt : k < M.length
   ·obtain ⟨m, hm⟩ := G.get_some M hlt
    obtain ⟨b, off, cap', e, d0, d1⟩ := mark_at (w := w2.drew) HL2.u (wr := wr) ⟨hb.os, hb.tape, hb.output, hb.size, hb.block⟩ hm
    cases e
    have i0 : (0 : Int) ≤ (k : Int) := by omega
    have i1 : (k : Int) < (M.length : Int) := by omega
    have hmb := hMem2.u m (List.mem_of_getElem? hm)
    have hsb := G.sumDown_bd (M.take k) have0 (fun m hm => hMem2.u m (List.mem_of_mem_take hm))
    have hkl : ((M.take k).length : Int) ≤ 300000 := by rw [List.length_take]; omega
    have HF := J (G.fold_snoc (f := fun (a : Int) (m : G.Mark) => a + max (-m.2) 0) (x := have0) hm)
    change Hid (G.sumDown (M.take (k + 1)) have0 = G.sumDown (M.take k) have0 + max (-m.2) 0) at HF
    generalize G.sumDown (M.take k) have0 = t at HF hsb ⊢
    have t0 : 0 ≤ t := by omega
    have t1 : t ≤ 15000050 := by omega
    obtain ⟨m0, m1⟩ := hmb
    have HB := J (hb.alloc hb.size (.cells #[.int .i64 m.1, .int .i64 m.2] 290))
    clear hb hm hsb hkl
    by_cases hc : -m.2 < 0
    ·go_wp2_with fail
     go_roundw
     case rel => exact ⟨k + 1, by omega, by go_num, by rw [HF.u, show t + max (-m.2) 0 = t by omega], HB.u⟩
     case measure => simp [intOf]; omega
    have hc' : 0 ≤ -m.2 := by omega
    go_wp2_with fail
    go_roundw
    case rel => exact ⟨k + 1, by omega, by go_num, by rw [HF.u, show t + max (-m.2) 0 = t + -m.2 by omega], HB.u⟩
    case measure => simp [intOf]; omega
   have hke : k = M.length := by omega
   subst hke
   rw [List.take_length]
   have hsb := G.sumDown_bd M have0 hMem2.u
   have HBu := J (show G.baseDown s now have0 = G.sumDown M have0 by unfold G.baseDown; rw [HMe.u])
   generalize G.sumDown M have0 = B at HBu hsb ⊢
   have t0 : 0 ≤ B := by omega
   have t1 : B ≤ 15000050 := by omega
   have HB3 := J (HB2.u.trans (hb.mono HB2.u.size))
   have h4 := H3.u.below hb
   have d1 := h4.head.here (i := 5) rfl
   have d2 := h4.head.here (i := 6) rfl
   obtain ⟨z0, z1⟩ := G.sharec_bd B (10 * s.down.pct)
   have HFn := J (show ∀ x, x = min (max a (B - max s.down.pods (G.sharec B (10 * s.down.pct)))) have0 → ∀ w', wr = w' ∨ wr.drew = w' → LongPost w (G.fewerN s now have0 want) (.returned (.int .i64 x)) w' from fun x hx w' hw' => ⟨by rw [HM1.u, HLM.u, HBu.u, hx]; rfl, by rcases hw' with rfl | rfl; exact HB3.u; exact HB3.u.drew⟩)
   clear hb h4 hsb HM1 HBu
   have hmul : IntKind.i64.wrap (10 * s.down.pct) = 10 * s.down.pct := IntWalk.i64_in _ (by omega)
   by_cases hp : s.down.pods < G.sharec B (10 * s.down.pct)
   ·have hw1 : IntKind.i64.wrap (B - G.sharec B (10 * s.down.pct)) = B - G.sharec B (10 * s.down.pct) := IntWalk.i64_in _ (by omega)
    by_cases hq : a < B - G.sharec B (10 * s.down.pct)
    ·go_wp2_with fail
     go_region_held3 (fun w' => w'.cell? ⟨g, 5, none⟩ = some (.int .i64 s.down.pods) ∧ w'.cell? ⟨g, 6, none⟩ = some (.int .i64 s.down.pct)) (go_keep) (first | (go_at_call 202; refine (numShare _ _ _).mono ?_; rintro e w' ⟨rfl, rfl⟩))
     all_goals
      clear hmul hw1
      go_wp2_with fail
      all_goals
       go_ret
       exact HFn.u _ (by omega) _ (.inr rfl)
    have hq' : B - G.sharec B (10 * s.down.pct) ≤ a := by omega
    go_wp2_with fail
    go_region_held3 (fun w' => w'.cell? ⟨g, 5, none⟩ = some (.int .i64 s.down.pods) ∧ w'.cell? ⟨g, 6, none⟩ = some (.int .i64 s.down.pct)) (go_keep) (first | (go_at_call 202; refine (numShare _ _ _).mono ?_; rintro e w' ⟨rfl, rfl⟩))
    all_goals
     clear hmul hw1
     go_wp2_with fail
     all_goals
      go_ret
      exact HFn.u _ (by omega) _ (.inr rfl)
   have hp' : G.sharec B (10 * s.down.pct) ≤ s.down.pods := by omega
   have hw1 : IntKind.i64.wrap (B - s.down.pods) = B - s.down.pods := IntWalk.i64_in _ (by omega)
   by_cases hq : a < B - s.down.pods
   ·go_wp2_with fail
    go_region_held3 (fun w' => w'.cell? ⟨g, 5, none⟩ = some (.int .i64 s.down.pods) ∧ w'.cell? ⟨g, 6, none⟩ = some (.int .i64 s.down.pct)) (go_keep) (first | (go_at_call 202; refine (numShare _ _ _).mono ?_; rintro e w' ⟨rfl, rfl⟩))
    all_goals
     clear hmul hw1
     go_wp2_with fail
     all_goals
      go_ret
      exact HFn.u _ (by omega) _ (.inr rfl)
   have hq' : B - s.down.pods ≤ a := by omega
   go_wp2_with fail
   go_region_held3 (fun w' => w'.cell? ⟨g, 5, none⟩ = some (.int .i64 s.down.pods) ∧ w'.cell? ⟨g, 6, none⟩ = some (.int .i64 s.down.pct)) (go_keep) (first | (go_at_call 202; refine (numShare _ _ _).mono ?_; rintro e w' ⟨rfl, rfl⟩))
   all_goals
    clear hmul hw1
    go_wp2_with fail
    all_goals
     go_ret
     exact HFn.u _ (by omega) _ (.inr rfl)
end Go.Proofs.YtoidcbpcnikejaaGreatDoor
