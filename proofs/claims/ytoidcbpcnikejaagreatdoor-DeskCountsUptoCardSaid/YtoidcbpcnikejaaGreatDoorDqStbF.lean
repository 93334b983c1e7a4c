/- The contract of Settle. -/
import Derived.Deep.CutBlock
import Derived.Test.YtoidcbpcnikejaaGreatDoorDq03
set_option linter.unusedVariables false
set_option linter.unusedSimpArgs false
set_option maxRecDepth 100000
set_option maxHeartbeats 12800000
namespace Go.Proofs.YtoidcbpcnikejaaGreatDoor
open Go.RowKit
theorem info_mark : (Tryz.prog.info? 290).map (fun i => (i.zero, i.size, i.bytes)) = some (some (.agg #[.int .i64 0, .int .i64 0]), 2, 16) := by kernel_rfl
theorem StbAt.up {T TM : TypeId} {S : Nat → Prop} {w0 w : World} {g : Nat} {s : G.Stb} {vw vm : Value} (h : StbAt T TM S w g s vw vm) : StbAt T TM (G.Plus S w0 w) w g s vw vm :=
 ⟨h.head, h.wan.mono fun _ _ hb => .inl hb, h.mov.mono fun _ _ hb => .inl hb, h.apart, .inl h.own, fun b hb => by rcases hb with hb | hb; exact h.lim b hb; exact hb.2⟩
theorem new_cells_in {w : World} {cs : Array Value} {T : TypeId} {H : Nat} (hH : w.heap.size = H) : ∀ (j : Nat) (u : Value), cs.toList[j]? = some u → (w.alloc (.cells cs T)).cell? ((⟨H, 0, none⟩ : Addr).add j) = some u := by
 subst hH; exact G.new_cells w cs T
theorem StbAt.mono {T TM : TypeId} {S S' : Nat → Prop} {w : World} {g : Nat} {s : G.Stb} {vw vm : Value} (h : StbAt T TM S w g s vw vm) (hs : ∀ b, b < w.heap.size → S b → S' b) (hl : ∀ b, S' b → b < w.heap.size) : StbAt T TM S' w g s vw vm :=
 ⟨h.head, h.wan.mono hs, h.mov.mono hs, h.apart, hs g h.head.inside h.own, hl⟩
theorem StbAt.tick {T TM : TypeId} {S : Nat → Prop} {w : World} {g : Nat} {s : G.Stb} {vw vm : Value} (h : StbAt T TM S w g s vw vm) (hT : T ≠ TM) (x : Int) : StbAt T TM S (w.setCell ⟨g, 8, none⟩ (.int .i64 x)) g { s with last := x } vw vm :=
 ⟨h.head.put 8 (.int .i64 x), h.wan.aside (p := ⟨g, 8, none⟩) (h.wan.apartAt h.head (Ne.symm hT)) _, h.mov.aside (p := ⟨g, 8, none⟩) (h.mov.apartAt h.head (Ne.symm hT)) _, h.apart, h.own, fun b hb => by rw [G.size_put]; exact h.lim b hb⟩
theorem StbAt.alloc {T TM : TypeId} {S : Nat → Prop} {w : World} {g : Nat} {s : G.Stb} {vw vm : Value} (h : StbAt T TM S w g s vw vm) (o : Obj) : StbAt T TM S (w.alloc o) g s vw vm :=
 ⟨h.head.alloc o, h.wan.alloc o, h.mov.alloc o, h.apart, h.own, fun b hb => by simp; have := h.lim b hb; omega⟩
theorem StbAt.drew {T TM : TypeId} {S : Nat → Prop} {w : World} {g : Nat} {s : G.Stb} {vw vm : Value} (h : StbAt T TM S w g s vw vm) : StbAt T TM S w.drew g s vw vm :=
 ⟨h.head.drew, h.wan.drew, h.mov.drew, h.apart, h.own, h.lim⟩
theorem grown_other {S : Nat → Prop} {w w1 : World} {T : TypeId} {k : Nat} {v : Value} {n : Nat} {xs : List Value} {row : Option Nat} (h : G.OwnRow S w T k v n xs) (hg : w.grownBy w1 row) (hn : ∀ b, v.ownBlock = some b → row ≠ some b) : G.OwnRow S w1 T k v n xs := by
 refine ⟨h.1, ?_⟩
 rcases h.2 with hz | ⟨g, cap, e, hS, h3, h4, cur, h5, h6⟩
 ·exact .inl hz
 exact .inr ⟨g, cap, e, hS, h3, h4, cur, h5.grown hg (hn g (by rw [e]; rfl)), h6⟩
theorem StbAt.app1 {T TM : TypeId} {S : Nat → Prop} {w w1 : World} {g b cap : Nat} {s : G.Stb} {vw vm : Value} {m : G.Mark} (h : StbAt T TM S w g s vw vm) (hT : T ≠ TM)
  (h1 : w1.ownsRow 0 TM 2 (.slice (some ⟨b, 0, none⟩) (s.wanted.length + 1) cap) (s.wanted.length + 1) (s.wanted.flatMap G.encM ++ G.encM m)) (hg : w.grownBy w1 vw.ownBlock) (ho : vw.ownBlock = some b ∨ b = w.heap.size) (hlt : b < w1.heap.size) :
  (w1.cell? ⟨g, 9, none⟩ = some vw ∧ w1.frozen? ⟨g, 9, none⟩ = false) ∧
  StbAt T TM (G.Plus S w w1) (w1.setCell ⟨g, 9, none⟩ (.slice (some ⟨b, 0, none⟩) (s.wanted.length + 1) cap)) g { s with wanted := s.wanted ++ [m] } (.slice (some ⟨b, 0, none⟩) (s.wanted.length + 1) cap) vm ∧
  G.Chg S w (w1.setCell ⟨g, 9, none⟩ (.slice (some ⟨b, 0, none⟩) (s.wanted.length + 1) cap)) := by
 obtain ⟨r1, r2⟩ := h.wan.app h1 hg ho hlt
 have hA := h.head.grown hg (fun e => h.wan.apartAt h.head (Ne.symm hT) g e rfl)
 have hm := grown_other h.mov hg (fun b' hb' e => h.apart b' e hb')
 have e1 : (s.wanted ++ [m]).length = s.wanted.length + 1 := by simp
 have e2 : (s.wanted ++ [m]).flatMap G.encM = s.wanted.flatMap G.encM ++ G.encM m := by simp
 refine ⟨⟨hA.here rfl, hA.soft 9⟩, ⟨hA.put 9 _, ?_, ?_, ?_, .inl h.own, fun c hc => by rw [G.size_put]; exact G.Plus.lim h.lim r2.size c hc⟩, r2.put (.inl h.own) _⟩
 ·rw [e1, e2]; exact r1.aside (p := ⟨g, 9, none⟩) (r1.apartAt hA (Ne.symm hT)) _
 ·exact (hm.mono fun _ _ hb => .inl hb).aside (p := ⟨g, 9, none⟩) (hm.apartAt hA (Ne.symm hT)) _
 intro c hc e
 simp [Value.ownBlock] at hc
 subst hc
 rcases ho with ho | ho
 ·exact h.apart b ho e
 have := (h.mov.block b e).2; omega
theorem StbAt.app2 {T TM : TypeId} {S : Nat → Prop} {w w1 : World} {g b cap : Nat} {s : G.Stb} {vw vm : Value} {m : G.Mark} (h : StbAt T TM S w g s vw vm) (hT : T ≠ TM)
  (h1 : w1.ownsRow 0 TM 2 (.slice (some ⟨b, 0, none⟩) (s.moved.length + 1) cap) (s.moved.length + 1) (s.moved.flatMap G.encM ++ G.encM m)) (hg : w.grownBy w1 vm.ownBlock) (ho : vm.ownBlock = some b ∨ b = w.heap.size) (hlt : b < w1.heap.size) :
  (w1.cell? ⟨g, 10, none⟩ = some vm ∧ w1.frozen? ⟨g, 10, none⟩ = false) ∧
  StbAt T TM (G.Plus S w w1) (w1.setCell ⟨g, 10, none⟩ (.slice (some ⟨b, 0, none⟩) (s.moved.length + 1) cap)) g { s with moved := s.moved ++ [m] } vw (.slice (some ⟨b, 0, none⟩) (s.moved.length + 1) cap) ∧
  G.Chg S w (w1.setCell ⟨g, 10, none⟩ (.slice (some ⟨b, 0, none⟩) (s.moved.length + 1) cap)) := by
 obtain ⟨r1, r2⟩ := h.mov.app h1 hg ho hlt
 have hA := h.head.grown hg (fun e => h.mov.apartAt h.head (Ne.symm hT) g e rfl)
 have hm := grown_other h.wan hg (fun b' hb' e => h.apart b' hb' e)
 have e1 : (s.moved ++ [m]).length = s.moved.length + 1 := by simp
 have e2 : (s.moved ++ [m]).flatMap G.encM = s.moved.flatMap G.encM ++ G.encM m := by simp
 refine ⟨⟨hA.here rfl, hA.soft 10⟩, ⟨hA.put 10 _, ?_, ?_, ?_, .inl h.own, fun c hc => by rw [G.size_put]; exact G.Plus.lim h.lim r2.size c hc⟩, r2.put (.inl h.own) _⟩
 ·exact (hm.mono fun _ _ hb => .inl hb).aside (p := ⟨g, 10, none⟩) (hm.apartAt hA (Ne.symm hT)) _
 ·rw [e1, e2]; exact r1.aside (p := ⟨g, 10, none⟩) (r1.apartAt hA (Ne.symm hT)) _
 intro c hc e
 simp [Value.ownBlock] at e
 subst e
 rcases ho with ho | ho
 ·exact h.apart b hc ho
 have := (h.wan.block b hc).2; omega
def SettlePost (T TM : TypeId) (S : Nat → Prop) (w : World) (g : Nat) (s : G.Stb) (now have0 want : Int) (e : Ending) (w' : World) : Prop :=
 e = .returned (.tuple #[.int .i64 (G.settleN s now have0 want), .int .i64 (G.settleE s now have0 want)]) ∧ (∃ vw vm, StbAt T TM (G.Plus S w w') w' g (G.settleS s now have0 want) vw vm) ∧ G.Chg S w w'
theorem settle_no {T TM : TypeId} {S : Nat → Prop} {w : World} {g : Nat} {s : G.Stb} {vw vm : Value} {now have0 want : Int} (h : StbAt T TM S w g s vw vm) (hn : G.settleOk s now have0 want = false) : SettlePost T TM S w g s now have0 want (.returned (.tuple #[.int .i64 0, .int .i64 1])) w := by
 refine ⟨by simp [G.settleN, G.settleE, hn], ⟨vw, vm, ?_⟩, G.Chg.refl _ _⟩
 have e : G.settleS s now have0 want = s := by unfold G.settleS; rw [hn]; rfl
 rw [e]; exact h.up
theorem seen_at {T TM : TypeId} {S : Nat → Prop} {w w1 : World} {g b cap : Nat} {s : G.Stb} {vw vm : Value} {now want : Int} {o : Obj} (h : StbAt T TM S w g s vw vm) (hT : T ≠ TM)
  (h1 : w1.ownsRow 0 TM 2 (.slice (some ⟨b, 0, none⟩) (s.wanted.length + 1) cap) (s.wanted.length + 1) (s.wanted.flatMap G.encM ++ [.int .i64 now, .int .i64 want])) (hg : ((w.setCell ⟨g, 8, none⟩ (.int .i64 now)).alloc o).grownBy w1 vw.ownBlock) (ho : vw.ownBlock = some b ∨ b = w.heap.size + 1) (hlt : b < w1.heap.size) :
  (w1.cell? ⟨g, 9, none⟩ = some vw ∧ w1.frozen? ⟨g, 9, none⟩ = false) ∧
  StbAt T TM (G.Plus S w (w1.setCell ⟨g, 9, none⟩ (.slice (some ⟨b, 0, none⟩) (s.wanted.length + 1) cap))) (w1.setCell ⟨g, 9, none⟩ (.slice (some ⟨b, 0, none⟩) (s.wanted.length + 1) cap)) g (s.seen now want) (.slice (some ⟨b, 0, none⟩) (s.wanted.length + 1) cap) vm ∧
  G.Chg S w (w1.setCell ⟨g, 9, none⟩ (.slice (some ⟨b, 0, none⟩) (s.wanted.length + 1) cap)) := by
 have z : ((w.setCell ⟨g, 8, none⟩ (.int .i64 now)).alloc o).heap.size = w.heap.size + 1 := by simp [World.setCell]
 obtain ⟨q1, q2, q3⟩ := ((h.tick hT now).alloc o).app1 (m := (now, want)) hT h1 hg (ho.imp id (fun e => by rw [e, z])) hlt
 have z3 := q3.size
 refine ⟨q1, q2.mono (fun c hlt hb => ?_) (fun c hb => ?_), (((G.Chg.refl S w).put (p := ⟨g, 8, none⟩) (.inl h.own) _).alloc o).trans q3⟩
 ·rcases hb with hb | hb
  ·exact .inl hb
  exact .inr ⟨by omega, hlt⟩
 rcases hb with hb | hb
 ·have := h.lim c hb; omega
 exact hb.2
theorem went_at {T TM : TypeId} {S : Nat → Prop} {w wr w1 : World} {g b cap : Nat} {s : G.Stb} {vw vm : Value} {now n : Int} {o : Obj} (h : StbAt T TM (G.Plus S w wr) wr g s vw vm) (hc : G.Chg S w wr) (hT : T ≠ TM)
  (h1 : w1.ownsRow 0 TM 2 (.slice (some ⟨b, 0, none⟩) (s.moved.length + 1) cap) (s.moved.length + 1) (s.moved.flatMap G.encM ++ [.int .i64 now, .int .i64 n])) (hg : (wr.alloc o).grownBy w1 vm.ownBlock) (ho : vm.ownBlock = some b ∨ b = wr.heap.size + 1) (hlt : b < w1.heap.size) :
  (w1.cell? ⟨g, 10, none⟩ = some vm ∧ w1.frozen? ⟨g, 10, none⟩ = false) ∧
  StbAt T TM (G.Plus S w (w1.setCell ⟨g, 10, none⟩ (.slice (some ⟨b, 0, none⟩) (s.moved.length + 1) cap))) (w1.setCell ⟨g, 10, none⟩ (.slice (some ⟨b, 0, none⟩) (s.moved.length + 1) cap)) g (s.went now n) vw (.slice (some ⟨b, 0, none⟩) (s.moved.length + 1) cap) ∧
  G.Chg S w (w1.setCell ⟨g, 10, none⟩ (.slice (some ⟨b, 0, none⟩) (s.moved.length + 1) cap)) := by
 have z : (wr.alloc o).heap.size = wr.heap.size + 1 := by simp
 obtain ⟨q1, q2, q3⟩ := (h.alloc o).app2 (m := (now, n)) hT h1 hg (ho.imp id (fun e => by rw [e, z])) hlt
 have z3 := q3.size; have z4 := hc.size
 refine ⟨q1, q2.mono (fun c hlt hb => ?_) (fun c hb => ?_), hc.plus (((G.Chg.refl _ wr).alloc o).trans q3)⟩
 ·rcases hb with hb | hb
  ·rcases hb with hb | hb
   ·exact .inl hb
   exact .inr ⟨hb.1, hlt⟩
  exact .inr ⟨by omega, hlt⟩
 rcases hb with hb | hb
 ·have := h.lim c (.inl hb); omega
 exact hb.2
theorem below_at {T TM : TypeId} {S : Nat → Prop} {w wr w1 : World} {g : Nat} {s : G.Stb} {vw vm : Value} (h : StbAt T TM (G.Plus S w wr) wr g s vw vm) (hc : G.Chg S w wr) (hb : Below wr.heap.size wr w1) : StbAt T TM (G.Plus S w w1) w1 g s vw vm ∧ G.Chg S w w1 := by
 have z := hb.size; have z2 := hc.size
 refine ⟨(h.below hb).mono (fun c _ hb' => hb'.up z) (fun c hb' => ?_), hc.step_below hb hc.size⟩
 rcases hb' with hb' | hb'
 ·have := h.lim c (.inl hb'); omega
 exact hb'.2
theorem settle_end {T TM : TypeId} {S : Nat → Prop} {w w' : World} {g : Nat} {s : G.Stb} {vw vm : Value} {now have0 want n : Int} (hk : G.settleOk s now have0 want = true) (hn : n = G.settleN0 (s.seen now want) now have0 want) (hc : G.Chg S w w')
  (h : StbAt T TM (G.Plus S w w') w' g (if n = have0 then s.seen now want else (s.seen now want).went now (n - have0)) vw vm) : SettlePost T TM S w g s now have0 want (.returned (.tuple #[.int .i64 n, .int .i64 0])) w' := by
 subst hn
 refine ⟨by simp [G.settleN, G.settleE, hk], ⟨vw, vm, ?_⟩, hc⟩
 have e : G.settleS s now have0 want = (if G.settleN0 (s.seen now want) now have0 want = have0 then s.seen now want else (s.seen now want).went now (G.settleN0 (s.seen now want) now have0 want - have0)) := by unfold G.settleS; rw [hk]; rfl
 rw [e]; exact h
theorem Stb.ok_seen {s : G.Stb} {j : Nat} {now have0 want : Int} (h : s.ok j) (hk : G.settleOk s now have0 want = true) : (s.seen now want).ok (j + 1) := by
 unfold G.settleOk at hk
 simp only [Bool.and_eq_true, decide_eq_true_eq] at hk
 obtain ⟨⟨⟨a1, a2⟩, a3, a4⟩, a5, a6⟩ := hk
 have l0 := h.last0
 refine ⟨h.up, h.down, by show 0 ≤ now; omega, a2, ?_, ?_, ?_, h.msort, by show (s.wanted ++ [_]).length ≤ _; simp; exact h.wlen, Nat.le_succ_of_le h.mlen⟩
 ·intro m hm
  rcases List.mem_append.1 hm with hm | hm
  ·have := h.wan m hm
   exact ⟨this.1, this.2.1, by show m.1 ≤ now; omega⟩
  have : m = (now, want) := by simpa using hm
  subst this
  exact ⟨⟨a5, a6⟩, by simp only; omega, by show now ≤ now; omega⟩
 ·intro m hm
  have := h.mov m hm
  exact ⟨this.1, this.2.1, by show m.1 ≤ now; omega⟩
 show (s.wanted ++ [(now, want)]).Pairwise _
 rw [List.pairwise_append]
 refine ⟨h.wsort, by simp, fun a ha b hb => ?_⟩
 have : b = (now, want) := by simpa using hb
 subst this
 have := h.wan a ha
 simp only; omega
theorem Stb.ok_went {s : G.Stb} {j : Nat} {n : Int} (h : s.ok j) (h0 : -50 ≤ n) (h1 : n ≤ 50) (hj : s.moved.length + 1 ≤ j) : (s.went s.last n).ok j := by
 refine ⟨h.up, h.down, h.last0, h.last1, h.wan, ?_, h.wsort, ?_, h.wlen, by show (s.moved ++ [_]).length ≤ _; simpa using hj⟩
 ·intro m hm
  rcases List.mem_append.1 hm with hm | hm
  ·exact h.mov m hm
  have : m = (s.last, n) := by simpa using hm
  subst this
  exact ⟨⟨h0, h1⟩, h.last0, by show s.last ≤ s.last; omega⟩
 show (s.moved ++ [(s.last, n)]).Pairwise _
 rw [List.pairwise_append]
 refine ⟨h.msort, by simp, fun a ha b hb => ?_⟩
 have : b = (s.last, n) := by simpa using hb
 subst this
 exact (h.mov a ha).2.2
theorem moreN_bd (s : G.Stb) (now have0 want : Int) (h : ∀ m ∈ s.wanted, 0 ≤ m.2 ∧ m.2 ≤ 50) (h0 : 0 ≤ have0) (h1 : have0 ≤ 50) (w0 : 0 ≤ want) (w1 : want ≤ 50) : have0 ≤ G.moreN s now have0 want ∧ G.moreN s now have0 want ≤ 50 := by
 have := G.minAll_bd (G.behindL s.wanted (now - s.up.win)) want w0 w1 (fun m hm => h m (G.behindL_mem m hm))
 unfold G.moreN
 simp only
 split <;> omega
theorem fewerN_bd (s : G.Stb) (now have0 want : Int) (h : ∀ m ∈ s.wanted, 0 ≤ m.2 ∧ m.2 ≤ 50) (h0 : 0 ≤ have0) (h1 : have0 ≤ 50) (w0 : 0 ≤ want) (w1 : want ≤ 50) : 0 ≤ G.fewerN s now have0 want ∧ G.fewerN s now have0 want ≤ have0 := by
 have := G.maxAll_bd (G.behindL s.wanted (now - s.down.win)) want w0 w1 (fun m hm => h m (G.behindL_mem m hm))
 unfold G.fewerN
 simp only
 split <;> omega
theorem settleN0_bd (s : G.Stb) (now have0 want : Int) (h : ∀ m ∈ s.wanted, 0 ≤ m.2 ∧ m.2 ≤ 50) (h0 : 0 ≤ have0) (h1 : have0 ≤ 50) (w0 : 0 ≤ want) (w1 : want ≤ 50) : 0 ≤ G.settleN0 s now have0 want ∧ G.settleN0 s now have0 want ≤ 50 := by
 have a := moreN_bd s now have0 want h h0 h1 w0 w1
 have b := fewerN_bd s now have0 want h h0 h1 w0 w1
 unfold G.settleN0
 split
 ·omega
 split <;> omega
theorem stbSettle (S : Nat → Prop) (g : Nat) (s : G.Stb) (vw vm : Value) (now have0 want : Int) (w : World) (j : Nat) (h : StbAt 257 290 S w g s vw vm) (hs : s.ok j) (hj : j ≤ 290000) :
  Calls Tryz.prog 183 #[.pointer (some ⟨g, 0, none⟩), .int .i64 now, .int .i64 have0, .int .i64 want] w (SettlePost 257 290 S w g s now have0 want) := by
 have c8 := h.head.here (i := 8) rfl
 cases hok : G.settleOk s now have0 want
 ·have HF := J (settle_no h hok)
  unfold G.settleOk at hok
  clear h hs
  by_cases a1 : now < s.last
  ·clear hok
   go_enter Tryz.func183, Tryz.ntmps183
   go_wp2_with fail
   go_ret2
   exact HF.u
  by_cases a2 : 1099511627776 < now
  ·clear hok
   go_enter Tryz.func183, Tryz.ntmps183
   go_wp2_with fail
   go_ret2
   exact HF.u
  by_cases a3 : have0 < 0
  ·clear hok
   go_enter Tryz.func183, Tryz.ntmps183
   go_wp2_with fail
   go_ret2
   exact HF.u
  by_cases a4 : 50 < have0
  ·clear hok
   go_enter Tryz.func183, Tryz.ntmps183
   go_wp2_with fail
   go_ret2
   exact HF.u
  by_cases a5 : want < 0
  ·clear hok
   go_enter Tryz.func183, Tryz.ntmps183
   go_wp2_with fail
   go_ret2
   exact HF.u
  have a6 : 50 < want := by
   simp at hok; omega
  clear hok
  go_enter Tryz.func183, Tryz.ntmps183
  go_wp2_with fail
  go_ret2
  exact HF.u
 have HOK := J hok
 have hb := hok
 unfold G.settleOk at hb
 simp only [Bool.and_eq_true, decide_eq_true_eq] at hb
 obtain ⟨⟨⟨a1, a2⟩, a3, a4⟩, a5, a6⟩ := hb
 have c9 : w.cell? ⟨g, 9, none⟩ = some vw := h.head.here rfl
 have f8 := h.head.soft 8
 have hgw : g < w.heap.size := h.head.inside
 have HH := J h; have HS := J hs
 have HT := J (h.tick (by decide) now)
 obtain ⟨i0, hi, hz0, hz1, hz2⟩ := info_parts info_mark
 have hwl := hs.wlen
 have hm3 := J (show s.wanted.length + 1 ≤ maxLen by simp only [maxLen]; omega)
 have hm4 := J (show (s.wanted.length + 1) * 16 ≤ 140737488355328 by omega)
 clear h hs hok
 go_enter Tryz.func183, Tryz.ntmps183
 go_wp2_with (at_builtin; refine wpList_append_lies _ (by rfl) (.tmp 45) (.tmp 49) 255 (by rfl) 0 290 i0 (.agg #[.int .i64 0, .int .i64 0]) 2 16 Tryz.underlying255 hi hz0 hz1 hz2 rfl (by decide) vw _ _ rfl (HT.u.alloc _).wan.owns ⟨w.heap.size, 0, none⟩ 1 1 [.int .i64 now, .int .i64 want] rfl rfl (new_cells_in (G.size_put w _ _)) (by simp [Value.oneCell']) (by decide) hm3.u hm4.u (Nat.zero_le _) _ rfl ?_)
 intro b cap w1 hown hg ho hlt
 obtain ⟨⟨d9, f9⟩, hA, hC⟩ := seen_at HH.u (by decide) hown hg ho hlt
 have HA := J hA; have HC := J hC
 clear hown hg ho hlt hA hC c9 f8 c8
 have hokj := J (Stb.ok_seen HS.u HOK.u)
 by_cases hup : have0 < want
 ·go_wp2_with fail
  refine (stbMore _ g (s.seen now want) _ vm now have0 want _ (j + 1) HA.u hokj.u (by omega) (by have := HS.u.last0; omega) a2 a3 a4 a5 a6).mono ?_
  rintro e w3 ⟨rfl, hb3⟩
  obtain ⟨hA3, hC3⟩ := below_at HA.u HC.u hb3
  have HA3 := J hA3; have HC3 := J hC3
  have HUP := J hup
  clear hA3 hC3 hb3 d9 f9
  have hnb := settleN0_bd (s.seen now want) now have0 want (fun m hm => ((Stb.ok_seen HS.u HOK.u).wan m hm).1) a3 a4 a5 a6
  have HN := J (show G.moreN (s.seen now want) now have0 want = G.settleN0 (s.seen now want) now have0 want from by unfold G.settleN0; rw [if_pos HUP.u])
  rw [← HN.u] at hnb
  obtain ⟨b0, b1⟩ := hnb
  generalize G.moreN (s.seen now want) now have0 want = N at HN b0 b1 ⊢
  by_cases hne : N = have0
  ·have HF := J (settle_end (n := N) HOK.u HN.u HC3.u (by rw [if_pos hne]; exact HA3.u))
   subst hne
   go_wp2_with fail
   go_ret2
   exact HF.u
  have hbq : (N == have0) = false := by simp [hne]
  have hbn : (N != have0) = true := by simp [hne]
  have e10 : w3.cell? ⟨g, 10, none⟩ = some vm := HA3.u.head.here rfl
  have hgw3 : g < w3.heap.size := HA3.u.head.inside
  have hml := (Stb.ok_seen HS.u HOK.u).mlen
  have hm5 := J (show (s.seen now want).moved.length + 1 ≤ maxLen by simp only [maxLen]; omega)
  have hm6 := J (show ((s.seen now want).moved.length + 1) * 16 ≤ 140737488355328 by omega)
  have HNE := J hne
  clear hne hml
  go_wp2_with (at_builtin; refine wpList_append_lies _ (by rfl) (.tmp 79) (.tmp 85) 255 (by rfl) 0 290 i0 (.agg #[.int .i64 0, .int .i64 0]) 2 16 Tryz.underlying255 hi hz0 hz1 hz2 rfl (by decide) vm _ _ rfl (HA3.u.alloc _).mov.owns ⟨w3.heap.size, 0, none⟩ 1 1 [.int .i64 now, .int .i64 (N - have0)] rfl rfl (new_cells_in rfl) (by simp [Value.oneCell']) (by decide) hm5.u hm6.u (Nat.zero_le _) _ rfl ?_)
  intro b5 cap5 w5 hown5 hg5 ho5 hlt5
  obtain ⟨⟨d10, f10⟩, hA5, hC5⟩ := went_at (n := N - have0) HA3.u HC3.u (by decide) hown5 hg5 ho5 hlt5
  have HF := J (settle_end (n := N) HOK.u HN.u hC5 (by rw [if_neg HNE.u]; exact hA5))
  clear hown5 hg5 ho5 hlt5 hA5 hC5 e10
  go_wp2_with fail
  go_ret2
  exact HF.u
 by_cases hdn : want < have0
 ·go_wp2_with fail
  refine (stbFewer _ g (s.seen now want) _ vm now have0 want _ (j + 1) HA.u hokj.u (by omega) (by have := HS.u.last0; omega) a2 a3 a4 a5 a6).mono ?_
  rintro e w3 ⟨rfl, hb3⟩
  obtain ⟨hA3, hC3⟩ := below_at HA.u HC.u hb3
  have HA3 := J hA3; have HC3 := J hC3
  have HUP := J hup; have HDN := J hdn
  clear hA3 hC3 hb3 d9 f9
  have hnb := settleN0_bd (s.seen now want) now have0 want (fun m hm => ((Stb.ok_seen HS.u HOK.u).wan m hm).1) a3 a4 a5 a6
  have HN := J (show G.fewerN (s.seen now want) now have0 want = G.settleN0 (s.seen now want) now have0 want from by unfold G.settleN0; rw [if_neg (by have := HUP.u; omega), if_pos HDN.u])
  rw [← HN.u] at hnb
  obtain ⟨b0, b1⟩ := hnb
  generalize G.fewerN (s.seen now want) now have0 want = N at HN b0 b1 ⊢
  by_cases hne : N = have0
  ·have HF := J (settle_end (n := N) HOK.u HN.u HC3.u (by rw [if_pos hne]; exact HA3.u))
   subst hne
   go_wp2_with fail
   go_ret2
   exact HF.u
  have hbq : (N == have0) = false := by simp [hne]
  have hbn : (N != have0) = true := by simp [hne]
  have e10 : w3.cell? ⟨g, 10, none⟩ = some vm := HA3.u.head.here rfl
  have hgw3 : g < w3.heap.size := HA3.u.head.inside
  have hml := (Stb.ok_seen HS.u HOK.u).mlen
  have hm5 := J (show (s.seen now want).moved.length + 1 ≤ maxLen by simp only [maxLen]; omega)
  have hm6 := J (show ((s.seen now want).moved.length + 1) * 16 ≤ 140737488355328 by omega)
  have HNE := J hne
  clear hne hml
  go_wp2_with (at_builtin; refine wpList_append_lies _ (by rfl) (.tmp 79) (.tmp 85) 255 (by rfl) 0 290 i0 (.agg #[.int .i64 0, .int .i64 0]) 2 16 Tryz.underlying255 hi hz0 hz1 hz2 rfl (by decide) vm _ _ rfl (HA3.u.alloc _).mov.owns ⟨w3.heap.size, 0, none⟩ 1 1 [.int .i64 now, .int .i64 (N - have0)] rfl rfl (new_cells_in rfl) (by simp [Value.oneCell']) (by decide) hm5.u hm6.u (Nat.zero_le _) _ rfl ?_)
  intro b5 cap5 w5 hown5 hg5 ho5 hlt5
  obtain ⟨⟨d10, f10⟩, hA5, hC5⟩ := went_at (n := N - have0) HA3.u HC3.u (by decide) hown5 hg5 ho5 hlt5
  have HF := J (settle_end (n := N) HOK.u HN.u hC5 (by rw [if_neg HNE.u]; exact hA5))
  clear hown5 hg5 ho5 hlt5 hA5 hC5 e10
  go_wp2_with fail
  go_ret2
  exact HF.u
 have heq : want = have0 := by omega
 have HF := J (settle_end (n := have0) HOK.u (by unfold G.settleN0; rw [if_neg hup, if_neg hdn]) HC.u (by rw [if_pos rfl]; exact HA.u))
 subst heq
 clear hup hdn
 go_wp2_with fail
 go_ret2
 exact HF.u
end Go.Proofs.YtoidcbpcnikejaaGreatDoor
