/- Parts of this claim: DskQ, DskD, DskX, DskO. -/
import Derived.Test.YtoidcbpcnikejaaGreatDoorDq29
import Derived.Test.YtoidcbpcnikejaaGreatDoorDq37
set_option linter.unusedVariables false
set_option linter.unusedSimpArgs false
set_option maxRecDepth 100000
set_option maxHeartbeats 12800000
namespace Go.Proofs.YtoidcbpcnikejaaGreatDoor
open Go.RowKit
structure Env (w : World) : Prop where
 pow : PowTab w
 len : ∃ m : Int, w.cell? ⟨0, 0, none⟩ = some (.int .i64 m)
 err : w.cell? ⟨1, 0, none⟩ = some (.iface 113 (.agg #[.pointer (some ⟨7, 39, none⟩)]))
 glob : 7 ≤ w.heap.size
theorem Env.chg {C : Nat → Prop} {w w' : World} (h : Env w) (hc : G.Chg C w w') (hC : ∀ b, b < 7 → ¬ C b) : Env w' := by
 obtain ⟨h1, ⟨m, h2⟩, h3, h4⟩ := h
 have hb : ∀ k, k < 7 → w'.heap[k]? = w.heap[k]? := fun k hk => hc.block k (by omega) (hC k hk)
 have hz := hc.size
 refine ⟨?_, ⟨m, ?_⟩, ?_, by omega⟩
 ·have hgn : Tryz.prog.globalNamed "internal/strconv.uint64pow10" = some 4 := by kernel_rfl
  unfold PowTab Lib.TabIs World.var? at h1 ⊢
  rw [hgn] at h1 ⊢
  simp only [Option.bind_some] at h1 ⊢
  rw [hb _ (by decide)]
  exact h1
 ·exact (World.cell?_of_block (hb _ (by decide))).trans h2
 exact (World.cell?_of_block (hb _ (by decide))).trans h3
theorem Env.below {w w' : World} (h : Env w) (hb : Below w.heap.size w w') : Env w' := h.chg (C := fun _ => False) (G.Chg.of_below hb (Nat.le_refl _)) fun _ _ h => h
theorem cell_b {w w' : World} {p : Addr} {v : Value} (h : w.cell? p = some v) (hb : Below w.heap.size w w') : w'.cell? p = some v := (World.cell?_of_block (hb.block p.block (World.block_lt_of_cell? _ _ h))).trans h
theorem cell_a {w : World} {p : Addr} {v : Value} (h : w.cell? p = some v) (o : Obj) : (w.alloc o).cell? p = some v := cell_b h ((Below.refl _ w).alloc (Nat.le_refl _) o)
def AnsIs (w : World) (e : Ending) : Ans → Prop
 | .text s => e = .returned (.tuple #[.string s, .nilIface])
 | .fault x a => ∃ s v, e = .returned (.tuple #[.string s, v]) ∧ ErrAt w v x a
theorem ans_chk {x : Int} {s : ByteArray} {w : World} {v : Value} (h : if x = 0 then v = .nilIface else ErrAt w v x (-1)) : AnsIs w (.returned (.tuple #[.string s, v])) (chk x s) := by
 unfold chk
 by_cases hx : x = 0
 ·rw [if_pos hx] at h ⊢; rw [h]; rfl
 rw [if_neg hx] at h ⊢; exact ⟨_, _, rfl, h⟩
theorem ans_fault {x a : Int} {s : ByteArray} {w : World} {v : Value} (h : ErrAt w v x a) : AnsIs w (.returned (.tuple #[.string s, v])) (.fault x a) := ⟨_, _, rfl, h⟩
def AnsPost (a : Ans) (w : World) (e : Ending) (w' : World) : Prop := AnsIs w' e a ∧ Below w.heap.size w w'
structure DkN (R : Nat → Prop) (w : World) (g : Nat) (d : Dk) : Prop where
 ex : ∃ wp : Value, G.At w g 32 #[.string d.text, wp] ∧ ((d.wo = none ∧ wp = .pointer none) ∨ ∃ m q, d.wo = some m ∧ wp = .pointer (some ⟨q.g, 0, none⟩) ∧ WoN (fun b => R b ∨ b = g) w q m)
 lim : ∀ b, R b → b < w.heap.size ∧ b ≠ g
theorem DkN.below {R : Nat → Prop} {w w' : World} {g : Nat} {d : Dk} (h : DkN R w g d) (hb : Below w.heap.size w w') : DkN R w' g d := by
 obtain ⟨⟨wp, h1, h2⟩, h3⟩ := h
 refine ⟨⟨wp, h1.below hb h1.inside, ?_⟩, fun b hR => ⟨Nat.lt_of_lt_of_le (h3 b hR).1 hb.size, (h3 b hR).2⟩⟩
 rcases h2 with h2 | ⟨m, q, e1, e2, hn⟩
 ·exact .inl h2
 exact .inr ⟨m, q, e1, e2, hn.below hb⟩
theorem DkN.aside {C R' R : Nat → Prop} {w w' : World} {g : Nat} {d : Dk} (h : DkN R w g d) (hc : G.Chg C w w') (hC : ∀ b, C b → R b) (hR : ∀ b, R' b → (R b ∨ w.heap.size ≤ b) ∧ b < w'.heap.size) : DkN R' w' g d := by
 obtain ⟨⟨wp, h1, h2⟩, h3⟩ := h
 have hi := h1.inside
 refine ⟨⟨wp, h1.chg hc fun hg => (h3 g (hC g hg)).2 rfl, ?_⟩, fun b hb => ⟨(hR b hb).2, ?_⟩⟩
 ·rcases h2 with h2 | ⟨m, q, e1, e2, hn⟩
  ·exact .inl h2
  refine .inr ⟨m, q, e1, e2, (hn.grow hc fun b hb => .inl (hC b hb)).mono fun b hb => ?_⟩
  rcases hb with hb | hb
  ·rcases (hR b hb).1 with h | h
   ·exact .inl (.inl h)
   exact .inr ⟨h, (hR b hb).2⟩
  exact .inl (.inr hb)
 rcases (hR b hb).1 with h | h
 ·exact (h3 b h).2
 omega
theorem DkN.put {R : Nat → Prop} {w : World} {g : Nat} {d : Dk} (h : DkN R w g d) (t : ByteArray) : DkN R (w.setCell ⟨g, 0, none⟩ (.string t)) g { d with text := t } ∧ G.Chg (fun b => ¬ R b) w (w.setCell ⟨g, 0, none⟩ (.string t)) := by
 obtain ⟨⟨wp, h1, h2⟩, h3⟩ := h
 have hg : ¬ R g := fun hR => (h3 g hR).2 rfl
 refine ⟨⟨⟨wp, h1.put 0 _, ?_⟩, fun b hb => ⟨by rw [G.size_put]; exact (h3 b hb).1, (h3 b hb).2⟩⟩, (G.Chg.refl (fun b => ¬ R b) w).put (p := ⟨g, 0, none⟩) (.inl hg) _⟩
 rcases h2 with h2 | ⟨m, q, e1, e2, hn⟩
 ·exact .inl h2
 exact .inr ⟨m, q, e1, e2, (hn.grow ((G.Chg.refl (fun b => b = g) w).put (p := ⟨g, 0, none⟩) (.inl rfl) _) fun b hb => .inr hb).mono fun b hb => .inl hb⟩
theorem DkN.world {R : Nat → Prop} {w : World} {g : Nat} {d : Dk} {m : Wo} {q : Wp} (h : DkN R w g d) (hn : WoN (fun b => R b ∨ b = g) w q m) : DkN R (w.setCell ⟨g, 1, none⟩ (.pointer (some ⟨q.g, 0, none⟩))) g { d with wo := some m } ∧ G.Chg (fun b => ¬ R b) w (w.setCell ⟨g, 1, none⟩ (.pointer (some ⟨q.g, 0, none⟩))) := by
 obtain ⟨⟨wp, h1, h2⟩, h3⟩ := h
 have hg : ¬ R g := fun hR => (h3 g hR).2 rfl
 exact ⟨⟨⟨_, h1.put 1 _, .inr ⟨m, q, rfl, rfl, (hn.grow ((G.Chg.refl (fun b => b = g) w).put (p := ⟨g, 1, none⟩) (.inl rfl) _) fun b hb => .inr hb).mono fun b hb => .inl hb⟩⟩, fun b hb => ⟨by rw [G.size_put]; exact (h3 b hb).1, (h3 b hb).2⟩⟩, (G.Chg.refl (fun b => ¬ R b) w).put (p := ⟨g, 1, none⟩) (.inl hg) _⟩
structure DkPost (R : Nat → Prop) (w : World) (g : Nat) (x : Ans × Dk) (e : Ending) (w' : World) : Prop where
 ans : AnsIs w' e x.1
 dk : DkN R w' g x.2
 chg : G.Chg (fun b => ¬ R b) w w'
theorem DkPost.of {R : Nat → Prop} {w w' : World} {g : Nat} {d : Dk} {a : Ans} {e : Ending} (h : DkN R w g d) (hp : AnsPost a w e w') : DkPost R w g (a, d) e w' :=
 ⟨hp.1, h.below hp.2, G.Chg.of_below hp.2 (Nat.le_refl _)⟩
theorem nV_in {x : ByteArray} (h : nOk x = true) : -1000000000000 ≤ nV x ∧ nV x ≤ 1000000000000 := by
 have h1 := h
 unfold nOk at h1
 rw [G.wholeOk_is, Bool.and_eq_true, Bool.and_eq_true, Bool.and_eq_true, decide_eq_true_iff, decide_eq_true_iff] at h1
 obtain ⟨⟨⟨h2, h3⟩, _⟩, h4⟩ := h1
 have hb := G.valL_bd _ _ rfl h4
 have hp : (10 : Int) ^ (G.digsL x.data.toList).length ≤ 10 ^ 12 := by
  have := Nat.pow_le_pow_right (n := 10) (by decide) h3
  exact_mod_cast this
 have hp2 : (10 : Int) ^ 12 = 1000000000000 := by decide
 unfold nV G.wholeV
 rw [G.numL_yes h2 h3 h4]
 split <;> omega
theorem arg_in {ws : List ByteArray} {n k : Nat} (h : numsOk ws n = true) (hk : k < n) : -1000000000000 ≤ argV ws k ∧ argV ws k ≤ 1000000000000 := by
 unfold numsOk at h
 rw [Bool.and_eq_true, decide_eq_true_iff, List.all_eq_true] at h
 obtain ⟨x, hx⟩ := G.get_some ws (i := k) (by omega)
 have e : argV ws k = nV x := by unfold argV G.pieceAt; rw [List.getD_eq_getElem?_getD, hx]; rfl
 rw [e]; exact nV_in (h.2 x (List.mem_of_getElem? hx))
theorem arg_get {ws : List ByteArray} {n k : Nat} (h : numsOk ws n = true) (hk : k < n) : (ws.map numV)[k]? = some (.int .i64 (argV ws k)) := by
 unfold numsOk at h
 rw [Bool.and_eq_true, decide_eq_true_iff] at h
 obtain ⟨x, hx⟩ := G.get_some ws (i := k) (by omega)
 have e : argV ws k = nV x := by unfold argV G.pieceAt; rw [List.getD_eq_getElem?_getD, hx]; rfl
 rw [List.getElem?_map, hx, e]; rfl
theorem nums_len {ws : List ByteArray} {n : Nat} (h : numsOk ws n = true) : ws.length = n := by
 unfold numsOk at h
 rw [Bool.and_eq_true, decide_eq_true_iff] at h
 exact h.1
open Go.RowKit
def cyP (s h : Int) : List Int := if okTime s h then [G.yrOf ((s + 60 * h) / 86400), G.moOf ((s + 60 * h) / 86400), G.dyOf ((s + 60 * h) / 86400), (s + 60 * h) % 86400 / 3600, (s + 60 * h) % 86400 / 60 % 60, (s + 60 * h) % 86400 % 60, ((s + 60 * h) / 86400 + 4) % 7] else [0, 0, 0, 0, 0, 0, 0]
def cyE (s h : Int) : Int := if okTime s h then 0 else 1
theorem cyP_in (s h : Int) : ∀ x ∈ cyP s h, -10000000000000 ≤ x ∧ x ≤ 10000000000000 := by
 unfold cyP
 split
 ·rename_i ho
  obtain ⟨h1, h2, h3, h4, h5, h6, h7⟩ := date_parts ho
  intro x hx
  simp only [List.mem_cons, List.not_mem_nil, or_false] at hx
  rcases hx with rfl | rfl | rfl | rfl | rfl | rfl | rfl <;> omega
 intro x hx
 simp only [List.mem_cons, List.not_mem_nil, or_false] at hx
 omega
theorem cyP_is (s h : Int) : ∃ a b c d e f g : Int, cyP s h = [a, b, c, d, e, f, g] := by
 unfold cyP; split <;> exact ⟨_, _, _, _, _, _, _, rfl⟩
theorem civAny (s h : Int) {a b c d e f g : Int} (hp : cyP s h = [a, b, c, d, e, f, g]) (w : World) : Calls Tryz.prog 50 #[.int .i64 s, .int .i64 h] w fun en w' =>
  en = .returned (.tuple #[.agg #[.int .i64 a, .int .i64 b, .int .i64 c, .int .i64 d, .int .i64 e, .int .i64 f, .int .i64 g], .int .i64 (cyE s h)]) ∧ Below w.heap.size w w' := by
 unfold cyP at hp
 unfold cyE
 by_cases ho : okTime s h
 ·rw [if_pos ho] at hp ⊢
  cases hp
  exact civOf_yes s h w ho
 rw [if_neg ho] at hp ⊢
 cases hp
 exact civOf_no s h w ho
def dateX (l : List ByteArray) : ByteArray := (((G.joinB 45 (l.take 3) ++ ⟨#[32]⟩) ++ G.joinB 58 ((l.drop 3).take 3)) ++ ⟨#[32]⟩) ++ G.pieceAt l 6
theorem dateX_is {s h : Int} (ho : okTime s h) : dateX ((cyP s h).map G.itoB) = dateTxt s h := by
 unfold cyP; rw [if_pos ho]; rfl
def ErrOr (w : World) (v : Value) (e : Int) : Prop := if e = 0 then v = .nilIface else ErrAt w v e (-1)
theorem ErrOr.below {w w' : World} {v : Value} {e : Int} (h : ErrOr w v e) (hb : Below w.heap.size w w') : ErrOr w' v e := by
 unfold ErrOr at h ⊢
 split
 ·rename_i h0; rw [if_pos h0] at h; exact h
 rename_i h0; rw [if_neg h0] at h; exact h.below hb
theorem checkOr (e : Int) (w : World) : Calls Tryz.prog 35 #[.int .i64 e] w fun en w' => ∃ v, en = .returned v ∧ ErrOr w' v e ∧ Below w.heap.size w w' := (deskCheck e w).mono fun _ _ q => q
theorem ans_or {x : Int} {s : ByteArray} {w : World} {v : Value} (h : ErrOr w v x) : AnsIs w (.returned (.tuple #[.string s, v])) (chk x s) := ans_chk h
structure JoinK (b : Nat) (xs : List ByteArray) (W : World) : Prop where
 wds : WdsAt W b 0 xs
 few : xs.length ≤ 1000000
 sml : ∀ x ∈ xs, x.size ≤ 1000000
theorem joinK {b : Nat} {xs : List ByteArray} {W : World} (h : JoinK b xs W) (c : UInt8) (off n cap : Nat) (ys : List ByteArray) (hy : (xs.drop off).take n = ys) (hn : ys.length = n) (hc : n ≤ cap) :
  Calls Tryz.prog 51 #[.slice (some ⟨b, off, none⟩) n cap, .string ⟨#[c]⟩] W fun e w' => e = .returned (.string (G.joinB c ys)) ∧ Below W.heap.size W w' := by
 subst hn
 have hm : ∀ x ∈ ys, x.size ≤ 1000000 := fun x hx => h.sml x (List.mem_of_mem_drop (List.mem_of_mem_take (hy ▸ hx)))
 have hl : ys.length ≤ 1000000 := by
  have h1 := h.few
  rw [← hy, List.length_take, List.length_drop]; omega
 refine (Tryz.strings_Join b off cap ys ⟨#[c]⟩ W (fun j x hj => ?_) h.wds.lt (by omega) hc ?_).mono fun _ _ q => q
 ·rw [← hy, List.getElem?_take] at hj
  split at hj
  ·rw [List.getElem?_drop] at hj
   have := h.wds.cell _ _ hj
   rw [Nat.zero_add] at this
   exact this
  cases hj
 have h1 := G.joinB_size c (l := ys) (k := 1000000) hm
 have h2 : (G.joinB c ys).size = (Lib.join (ys.map (·.data.toList)) [c]).length := by rw [G.ba_size]; show (List.toArray _).toList.length = _; rw [List.toList_toArray]
 show (Lib.join (ys.map (·.data.toList)) [c]).length ≤ _
 have h3 : (1000000 + 1) * ys.length ≤ (1000000 + 1) * 1000000 := Nat.mul_le_mul_left _ hl
 omega
structure TRun (xs : List ByteArray) (w wr : World) (k : Nat) (v : Value) : Prop where
 row : G.OwnRow (fun b => w.heap.size ≤ b) wr 9 1 v k ((xs.map Value.string).take k)
 bel : Below w.heap.size w wr
theorem TRun.next {xs : List ByteArray} {w wr w2 : World} {k : Nat} {v v' : Value} {x : ByteArray} {o : Obj} (h : TRun xs w wr k v) (hx : xs[k]? = some x) (hown : w2.ownsRow 0 9 1 v' (k + 1) ((xs.map Value.string).take k ++ [.string x])) (hg : (wr.alloc o).grownBy w2 v.ownBlock) (hv : v'.ownBlock = v.ownBlock ∨ v'.ownBlock = some (wr.alloc o).heap.size) : TRun xs w w2 (k + 1) v' := by
 have hz := h.bel.size
 refine ⟨?_, (h.bel.alloc hz o).grown hg (by simp; omega) fun g hgb => (h.row.block g hgb).1⟩
 have e : (xs.map Value.string).take (k + 1) = (xs.map Value.string).take k ++ [.string x] := G.take_of_get (by rw [List.getElem?_map, hx]; rfl)
 rw [e]
 refine G.OwnRow.of_owns hown fun g hgb => ?_
 rcases hv with e1 | e1
 ·rw [e1] at hgb; exact (h.row.block g hgb).1
 rw [e1] at hgb; cases hgb; simp; omega
theorem TRun.below {xs : List ByteArray} {w wr w2 : World} {k : Nat} {v : Value} (h : TRun xs w wr k v) (hb : Below wr.heap.size wr w2) : TRun xs w w2 k v := ⟨h.row.below hb (Nat.le_refl _), h.bel.trans (hb.mono h.bel.size)⟩
theorem TRun.wds {xs : List ByteArray} {w wr : World} {v : Value} (h : TRun xs w wr xs.length v) (h0 : 0 < xs.length) : ∃ b cap, v = .slice (some ⟨b, 0, none⟩) xs.length cap ∧ xs.length ≤ cap ∧ WdsAt wr b 0 xs := by
 obtain ⟨b, cap, e, _, h1, _, hr⟩ := h.row.form h0
 refine ⟨b, cap, e, h1, fun i x hi => ?_, hr.inside⟩
 rw [Nat.zero_add]
 refine hr.cell ?_
 rw [List.take_of_length_le (by rw [List.length_map]; exact Nat.le_refl _), List.getElem?_map, hi]; rfl
def JoinT (cap : Nat) (X1 X2 : ByteArray) (off cp : Nat) (c : UInt8) (X : ByteArray) : Prop := (off = 0 ∧ cp = cap ∧ c = 45 ∧ X = X1) ∨ (off = 3 ∧ cp = cap - 3 ∧ c = 58 ∧ X = X2)
structure DateK (L : List Int) (xs : List ByteArray) (w wr : World) (k b : Nat) (v : Value) : Prop where
 run : TRun xs w wr k v
 arr : G.At wr b 3 (L.map (Value.int .i64)).toArray
theorem deskDate (v : Value) (ws : List ByteArray) (w : World) (h : WdsIn w v ws) (hs : ∀ x ∈ ws, x.size ≤ 1000000) (hl : ws.length ≤ 1000000) (hE : PowTab w) :
  Calls Tryz.prog 31 #[v] w (AnsPost (dateA ws) w) := by
 obtain ⟨i0', hi, hz0, hz1, hz2⟩ := info_split info_text
 have HN := J (deskNumbers v ws 2 w h hs hl (by decide))
 have HP := J hE
 obtain ⟨A0, cap0, rfl, _, _⟩ := h
 clear hs hl hE
 go_enter Tryz.func31, Tryz.ntmps31
 go_wp2_with fail
 refine HN.u.mono ?_
 rintro e w2 hD
 cases hD with
 | bad _ v3 hno he hb =>
  have HF := J (show AnsPost (dateA ws) w (.returned (.tuple #[.string ⟨#[]⟩, v3])) w2 from ⟨by unfold dateA; rw [if_neg (by rw [hno]; simp)]; exact ans_fault he, hb⟩)
  obtain ⟨bf, rfl, _⟩ := he
  clear hno hb
  go_wp2_with fail
  go_ret2
  exact HF.u
 | good _ v3 hok hv hb =>
  have HOk := J hok
  have hlen := nums_len hok
  rw [hlen] at hv
  obtain ⟨b1, cap1, rfl, _, _, _, hr⟩ := hv.form (by decide)
  obtain ⟨s, hsv⟩ : ∃ s, argV ws 0 = s := ⟨_, rfl⟩
  obtain ⟨z, hzv⟩ : ∃ z, argV ws 1 = z := ⟨_, rfl⟩
  have c0 := hr.cell (arg_get hok (k := 0) (by decide))
  have c1 := hr.cell (arg_get hok (k := 1) (by decide))
  rw [hsv] at c0; rw [hzv] at c1
  have HR := J hr
  obtain ⟨ca, cb, cc, cd, ce, cf, cg, hcy⟩ := cyP_is s z
  have HCiv := J (fun W => civAny s z hcy W)
  have HIn := J (cyP_in s z)
  rw [hcy] at HIn
  have HB := J hb
  have HPw := J (HP.u.below hb)
  have HSz := J (show dateA ws = chk (cyE s z) (dateX ([ca, cb, cc, cd, ce, cf, cg].map G.itoB)) by
   rw [← hcy]
   unfold dateA chk cyE
   rw [if_pos hok, hsv, hzv]
   by_cases ho : okTime s z
   ·rw [if_pos ho, if_pos ho, if_pos rfl, dateX_is ho]
   rw [if_neg ho, if_neg ho, if_neg (by decide)])
  clear hok hlen hv hr hcy hb hsv hzv
  generalize cyE s z = E at HCiv HSz
  go_upto_region 4 with fail
  go_cut [6, 7] (fun x y wx => ∃ gc : Nat, x = .pointer (some ⟨gc, 0, none⟩) ∧ y = .int .i64 E ∧ Hid (G.At wx gc 86 #[.int .i64 ca, .int .i64 cb, .int .i64 cc, .int .i64 cd, .int .i64 ce, .int .i64 cf, .int .i64 cg] ∧ Below w2.heap.size w2 wx))
  case first =>
   have hS : w2.cell? ⟨b1, 0, none⟩ = some (.int .i64 s) ∧ w2.cell? ⟨b1, 1, none⟩ = some (.int .i64 z) := ⟨c0, c1⟩
   refine wp_region_held_drew (S := fun W => W.cell? ⟨b1, 0, none⟩ = some (.int .i64 s) ∧ W.cell? ⟨b1, 1, none⟩ = some (.int .i64 z)) (by kernel_rfl) hS (fun _ => ?_)
   change wpAnyH _ _ _ _ _ 13 #[false, false, false, false, false, false, false, false, false, false, false, false, false] _ (World.drew _)
   refine tq 0 (.slice (some ⟨b1, 0, none⟩) 2 cap1) rfl (fun W hW => ?_) hS ?_
   ·obtain ⟨z0, z1⟩ := hW; go_simp
   simp only [Act.put, tkS]
   refine tq 1 (.pointer (some ⟨b1, 0, none⟩)) rfl (fun W hW => ?_) hS ?_
   ·obtain ⟨z0, z1⟩ := hW; go_simp
   simp only [Act.put, tkS]
   refine tq 2 (.int .i64 s) rfl (fun W hW => ?_) hS ?_
   ·obtain ⟨z0, z1⟩ := hW; go_simp
   simp only [Act.put, tkS]
   refine tq 3 (.slice (some ⟨b1, 0, none⟩) 2 cap1) rfl (fun W hW => ?_) hS ?_
   ·obtain ⟨z0, z1⟩ := hW; go_simp
   simp only [Act.put, tkS]
   refine tq 4 (.pointer (some ⟨b1, 1, none⟩)) rfl (fun W hW => ?_) hS ?_
   ·obtain ⟨z0, z1⟩ := hW; go_simp
   simp only [Act.put, tkS]
   refine tq 5 (.int .i64 z) rfl (fun W hW => ?_) hS ?_
   ·obtain ⟨z0, z1⟩ := hW; go_simp
   simp only [Act.put, tkS]
   refine wpAnyH_ready (rs := [6, 10]) (by kernel_rfl) (by simp) (AllReadyH.cons rfl (fun K hK => ?_) (AllReadyH.cons rfl (fun K hK => ?_) AllReadyH.nil))
   ·go_simp
    refine (HCiv.u _).mono ?_
    rintro e w3 ⟨rfl, hb3⟩
    have HB3 := J (hel_dr hb3)
    have hS3 : w3.cell? ⟨b1, 0, none⟩ = some (.int .i64 s) ∧ w3.cell? ⟨b1, 1, none⟩ = some (.int .i64 z) := ⟨cell_b c0 (hel_dr hb3), cell_b c1 (hel_dr hb3)⟩
    clear hb3
    go_wp2_with fail
    refine hK.out _ _ hS3 (fun _ => ?_)
    clear hK K
    refine tq 7 (.tuple #[.agg #[.int .i64 ca, .int .i64 cb, .int .i64 cc, .int .i64 cd, .int .i64 ce, .int .i64 cf, .int .i64 cg], .int .i64 E]) rfl (fun W hW => ?_) hS3 ?_
    ·obtain ⟨z0, z1⟩ := hW; go_simp
    simp only [Act.put, tkS]
    refine tq 8 (.agg #[.int .i64 ca, .int .i64 cb, .int .i64 cc, .int .i64 cd, .int .i64 ce, .int .i64 cf, .int .i64 cg]) rfl (fun W hW => ?_) hS3 ?_
    ·obtain ⟨z0, z1⟩ := hW; go_simp
    simp only [Act.put, tkS]
    refine tq 9 (.int .i64 E) rfl (fun W hW => ?_) hS3 ?_
    ·obtain ⟨z0, z1⟩ := hW; go_simp
    simp only [Act.put, tkS]
    refine wpAnyH_ready (rs := [10]) (by kernel_rfl) (by simp) (AllReadyH.cons rfl (fun K hK => ?_) AllReadyH.nil)
    go_simp
    have hS4 : (w3.alloc (.cells #[.int .i64 0, .int .i64 0, .int .i64 0, .int .i64 0, .int .i64 0, .int .i64 0, .int .i64 0] 86)).cell? ⟨b1, 0, none⟩ = some (.int .i64 s) ∧ (w3.alloc (.cells #[.int .i64 0, .int .i64 0, .int .i64 0, .int .i64 0, .int .i64 0, .int .i64 0, .int .i64 0] 86)).cell? ⟨b1, 1, none⟩ = some (.int .i64 z) := ⟨cell_a hS3.1 _, cell_a hS3.2 _⟩
    have HA4 := J (G.At.made w3 86 #[.int .i64 0, .int .i64 0, .int .i64 0, .int .i64 0, .int .i64 0, .int .i64 0, .int .i64 0])
    have HB4 := J (HB3.u.alloc HB3.u.size (.cells #[.int .i64 0, .int .i64 0, .int .i64 0, .int .i64 0, .int .i64 0, .int .i64 0, .int .i64 0] 86))
    refine hK.out _ _ hS4 (fun _ => ?_)
    clear hK K
    refine wpAnyH_ready (rs := [11]) (by kernel_rfl) (by simp) (AllReadyH.cons rfl (fun K hK => ?_) AllReadyH.nil)
    refine hel_store rfl 86 (.tmp 6) (.tmp 27) rfl w3.heap.size #[.int .i64 ca, .int .i64 cb, .int .i64 cc, .int .i64 cd, .int .i64 ce, .int .i64 cf, .int .i64 cg] rfl rfl 86 _ HA4.u (by kernel_rfl) rfl (by simp [Value.oneCell']) ?_
    refine hK.out _ _ ⟨cell_b hS3.1 (hel_row ((Below.refl _ w3).alloc (Nat.le_refl _) _) (Nat.le_refl _) #[.int .i64 ca, .int .i64 cb, .int .i64 cc, .int .i64 cd, .int .i64 ce, .int .i64 cf, .int .i64 cg]), cell_b hS3.2 (hel_row ((Below.refl _ w3).alloc (Nat.le_refl _) _) (Nat.le_refl _) #[.int .i64 ca, .int .i64 cb, .int .i64 cc, .int .i64 cd, .int .i64 ce, .int .i64 cf, .int .i64 cg])⟩ (fun hS5 => ?_)
    clear hK K
    refine tq 12 (.int .i64 E) rfl (fun W hW => ?_) hS5 ?_
    ·obtain ⟨z0, z1⟩ := hW; go_simp
    simp only [Act.put, tkS]
    clear hS3 hS4 hS5 hS
    refine wpAnyH_done (by kernel_rfl) ?_ _
    go_wp2_with fail
    go_meet
    exact ⟨w3.heap.size, rfl, rfl, J ⟨hel_set HA4.u _, hel_row HB4.u HB3.u.size _⟩⟩
   go_simp
   have hS4 : (w2.alloc (.cells #[.int .i64 0, .int .i64 0, .int .i64 0, .int .i64 0, .int .i64 0, .int .i64 0, .int .i64 0] 86)).drew.cell? ⟨b1, 0, none⟩ = some (.int .i64 s) ∧ (w2.alloc (.cells #[.int .i64 0, .int .i64 0, .int .i64 0, .int .i64 0, .int .i64 0, .int .i64 0, .int .i64 0] 86)).drew.cell? ⟨b1, 1, none⟩ = some (.int .i64 z) := ⟨cell_a c0 _, cell_a c1 _⟩
   have HA4 := J (G.At.made w2 86 #[.int .i64 0, .int .i64 0, .int .i64 0, .int .i64 0, .int .i64 0, .int .i64 0, .int .i64 0])
   have HB4 := J ((Below.refl w2.heap.size w2).alloc (Nat.le_refl _) (.cells #[.int .i64 0, .int .i64 0, .int .i64 0, .int .i64 0, .int .i64 0, .int .i64 0, .int .i64 0] 86))
   refine hK.out _ _ hS4 (fun _ => ?_)
   clear hK K
   refine wpAnyH_ready (rs := [6]) (by kernel_rfl) (by simp) (AllReadyH.cons rfl (fun K hK => ?_) AllReadyH.nil)
   go_simp
   refine (HCiv.u _).mono ?_
   rintro e w3 ⟨rfl, hb3⟩
   have HB3 := J (hel_dr hb3)
   have hS3 : w3.cell? ⟨b1, 0, none⟩ = some (.int .i64 s) ∧ w3.cell? ⟨b1, 1, none⟩ = some (.int .i64 z) := ⟨cell_b (cell_a c0 _) (hel_dr hb3), cell_b (cell_a c1 _) (hel_dr hb3)⟩
   clear hb3
   go_wp2_with fail
   refine hK.out _ _ hS3 (fun _ => ?_)
   clear hK K
   refine tq 7 (.tuple #[.agg #[.int .i64 ca, .int .i64 cb, .int .i64 cc, .int .i64 cd, .int .i64 ce, .int .i64 cf, .int .i64 cg], .int .i64 E]) rfl (fun W hW => ?_) hS3 ?_
   ·obtain ⟨z0, z1⟩ := hW; go_simp
   simp only [Act.put, tkS]
   refine tq 8 (.agg #[.int .i64 ca, .int .i64 cb, .int .i64 cc, .int .i64 cd, .int .i64 ce, .int .i64 cf, .int .i64 cg]) rfl (fun W hW => ?_) hS3 ?_
   ·obtain ⟨z0, z1⟩ := hW; go_simp
   simp only [Act.put, tkS]
   refine tq 9 (.int .i64 E) rfl (fun W hW => ?_) hS3 ?_
   ·obtain ⟨z0, z1⟩ := hW; go_simp
   simp only [Act.put, tkS]
   have HA3 := J (HA4.u.below HB3.u HA4.u.inside)
   refine wpAnyH_ready (rs := [11]) (by kernel_rfl) (by simp) (AllReadyH.cons rfl (fun K hK => ?_) AllReadyH.nil)
   refine hel_store rfl 86 (.tmp 6) (.tmp 27) rfl w2.heap.size #[.int .i64 ca, .int .i64 cb, .int .i64 cc, .int .i64 cd, .int .i64 ce, .int .i64 cf, .int .i64 cg] rfl rfl 86 _ HA3.u (by kernel_rfl) rfl (by simp [Value.oneCell']) ?_
   have hB5 := hel_row (HB4.u.trans (HB3.u.mono HB4.u.size)) (Nat.le_refl _) #[.int .i64 ca, .int .i64 cb, .int .i64 cc, .int .i64 cd, .int .i64 ce, .int .i64 cf, .int .i64 cg]
   refine hK.out _ _ ⟨cell_b c0 hB5, cell_b c1 hB5⟩ (fun hS5 => ?_)
   clear hK K
   refine tq 12 (.int .i64 E) rfl (fun W hW => ?_) hS5 ?_
   ·obtain ⟨z0, z1⟩ := hW; go_simp
   simp only [Act.put, tkS]
   clear hS3 hS4 hS5 hS
   refine wpAnyH_done (by kernel_rfl) ?_ _
   go_wp2_with fail
   go_meet
   exact ⟨w2.heap.size, rfl, rfl, J ⟨hel_set HA3.u _, hB5⟩⟩
  obtain ⟨gc, rfl, rfl, HK⟩ := hcut
  have HK2 := J (HK.u.1.alloc (.cells #[] 9))
  have HB4 := J ((HB.u.trans (HK.u.2.mono HB.u.size)).alloc (HB.u.trans (HK.u.2.mono HB.u.size)).size (.cells #[] 9))
  have k0 := HK2.u.here (i := 0) rfl
  have k1 := HK2.u.here (i := 1) rfl
  have k2 := HK2.u.here (i := 2) rfl
  have k3 := HK2.u.here (i := 3) rfl
  have k4 := HK2.u.here (i := 4) rfl
  have k5 := HK2.u.here (i := 5) rfl
  have k6 := HK2.u.here (i := 6) rfl
  obtain ⟨L, hL⟩ : ∃ L : List Int, [ca, cb, cc, cd, ce, cf, cg] = L := ⟨_, rfl⟩
  rw [hL] at HIn HSz
  obtain ⟨xs, hxs⟩ : ∃ xs, L.map G.itoB = xs := ⟨_, rfl⟩
  rw [hxs] at HSz
  have hlx : xs.length = 7 := by rw [← hxs, ← hL]; rfl
  have HLx := J (show L.length = 7 ∧ xs.length = 7 from ⟨by rw [← hL]; rfl, hlx⟩)
  have HXs := J (show ∀ i x, L[i]? = some x → xs[i]? = some (G.itoB x) from fun i x hx => by rw [← hxs, List.getElem?_map, hx]; rfl)
  have HSm := J (show ∀ x ∈ xs, x.size ≤ 21 from fun x hx => by rw [← hxs] at hx; obtain ⟨y, hy, rfl⟩ := List.mem_map.1 hx; exact itoS y (HIn.u y hy))
  have HK5 := J (show DateK L xs w ((wc.alloc (.cells #[] 9)).alloc (.cells #[.int .i64 ca, .int .i64 cb, .int .i64 cc, .int .i64 cd, .int .i64 ce, .int .i64 cf, .int .i64 cg] 3)) 0 (wc.heap.size + 1) (.slice (some ⟨wc.heap.size, 0, none⟩) 0 0) from
   ⟨⟨⟨rfl, .inr ⟨wc.heap.size, 0, rfl, (HB.u.trans (HK.u.2.mono HB.u.size)).size, Nat.le_refl _, Nat.zero_le _, #[], (G.At.made wc 9 #[]).alloc _, rfl, Nat.le_refl _, rfl⟩⟩, HB4.u.alloc HB4.u.size _⟩, by
    have h1 := G.At.made (wc.alloc (.cells #[] 9)) 3 #[.int .i64 ca, .int .i64 cb, .int .i64 cc, .int .i64 cd, .int .i64 ce, .int .i64 cf, .int .i64 cg]
    have e : (wc.alloc (.cells #[] 9)).heap.size = wc.heap.size + 1 := by simp
    rw [e] at h1
    rw [← hL]; exact h1⟩)
  clear c0 c1 hL hxs HCiv HN HR HOk HB HPw HK HK2 HB4
  go_wp2_with fail
  clear k0 k1 k2 k3 k4 k5 k6
  go_loopw [8, 46] (fun o i wr => ∃ k : Nat, k ≤ 7 ∧ i = .int .i64 k ∧ Hid (DateK L xs w wr k (wc.heap.size + 1) o)) (fun _ i _ => 7 - (intOf i).toNat)
  case atStart => exact ⟨0, by omega, rfl, HK5⟩
  clear HK5
  obtain ⟨k, hk, rfl, HR⟩ := hrel
  obtain ⟨A2, cap2, rfl, _, _, _⟩ := HR.u.run.row.slice
  by_cases hlt : k < 7
  ·obtain ⟨x, hx⟩ := G.get_some L (i := k) (by have := HLx.u.1; omega)
   have c0 : wr.cell? ⟨wc.heap.size + 1, k, none⟩ = some (.int .i64 x) := HR.u.arr.here (by rw [List.getElem?_toArray, List.getElem?_map, hx]; rfl)
   have HX := J (HXs.u k x hx)
   have HI := J (HIn.u x (List.mem_of_getElem? hx))
   have HIt := J (itoaAny x ⟨by have := HI.u; omega, by have := HI.u; omega⟩ wr (HP.u.below HR.u.run.bel))
   have k0 : (0 : Int) ≤ (k : Int) := by omega
   have k1 : (k : Int) < 7 := by omega
   clear hx
   go_wp2_with fail
   refine HIt.u.mono ?_
   rintro e w3 ⟨rfl, hb3⟩
   have HR3 := J (HR.u.run.below hb3)
   have HA3 := J (HR.u.arr.below hb3 HR.u.arr.inside)
   have hm3 := J (show k + 1 ≤ maxLen by simp only [maxLen]; omega)
   have hm4 := J (show (k + 1) * 16 ≤ 140737488355328 by omega)
   have HLt := J hlt
   clear hb3 c0 HR HIt
   generalize G.itoB x = X at HX ⊢
   go_wp2_with (at_builtin; refine wpList_append_lies _ (by rfl) (.tmp 50) (.tmp 53) 23 (by rfl) 0 9 i0' (.string ByteArray.empty) 1 16 Tryz.underlying23 hi hz0 hz1 hz2 rfl (by decide) (.slice A2 k cap2) _ _ rfl (HR3.u.row.alloc _).owns ⟨w3.heap.size, 0, none⟩ 1 1 [.string X] rfl rfl (G.new_cells w3 _ _) (by simp [Value.oneCell']) (by decide) hm3.u hm4.u (Nat.zero_le _) _ rfl ?_)
   intro b2 cap3 w4 hown hg ho hlt2
   have HN := J (HR3.u.next HX.u hown hg (by
    rcases ho with e | e
    ·left; exact e.symm
    right; show some b2 = _; rw [e] <;> simp))
   have HA4 := J ((HA3.u.alloc _).grown hg fun e => HR3.u.row.apartAt HA3.u (by decide) _ e rfl)
   clear hown hg ho hlt2
   go_wp2_with fail
   go_roundw
   case rel => exact ⟨k + 1, by have := HLt.u; omega, by go_num, J ⟨HN.u, HA4.u⟩⟩
   case measure => have := HLt.u; simp [intOf]; omega
  obtain rfl : k = 7 := by omega
  have hrun := HR.u.run
  rw [← HLx.u.2] at hrun
  obtain ⟨b8, cap8, hv8, hc8, hW8⟩ := hrun.wds (by have := HLx.u.2; omega)
  rw [HLx.u.2] at hv8 hc8
  cases hv8
  obtain ⟨T6, h6⟩ := G.get_some xs (i := 6) (by have := HLx.u.2; omega)
  have hsm := HSm.u
  have hJ : ∀ W, WdsAt W b8 0 xs → JoinK b8 xs W := fun W h => ⟨h, by have := HLx.u.2; omega, fun x hx => by have := hsm x hx; omega⟩
  obtain ⟨X1, hX1⟩ : ∃ X, G.joinB 45 (xs.take 3) = X := ⟨_, rfl⟩
  obtain ⟨X2, hX2⟩ : ∃ X, G.joinB 58 ((xs.drop 3).take 3) = X := ⟨_, rfl⟩
  have HJ := J (fun (W : World) (h : WdsAt W b8 0 xs) (off cp : Nat) (c : UInt8) (X : ByteArray) (hj : JoinT cap2 X1 X2 off cp c X) => show Calls Tryz.prog 51 #[.slice (some ⟨b8, off, none⟩) 3 cp, .string ⟨#[c]⟩] W fun e w' => e = .returned (.string X) ∧ Below W.heap.size W w' from by
   rcases hj with ⟨h1, h2, h3, h4⟩ | ⟨h1, h2, h3, h4⟩
   ·rw [h1, h2, h3, h4, ← hX1]
    exact joinK (hJ W h) 45 0 3 cap2 (xs.take 3) rfl (by rw [List.length_take, HLx.u.2]; rfl) (by omega)
   rw [h1, h2, h3, h4, ← hX2]
   exact joinK (hJ W h) 58 3 3 (cap2 - 3) ((xs.drop 3).take 3) rfl (by rw [List.length_take, List.length_drop, HLx.u.2]; rfl) (by omega))
  have HJ1 := J (show JoinT cap2 X1 X2 0 cap2 45 X1 from .inl ⟨rfl, rfl, rfl, rfl⟩)
  have HJ2 := J (show JoinT cap2 X1 X2 3 (cap2 - 3) 58 X2 from .inr ⟨rfl, rfl, rfl, rfl⟩)
  have HT := J (show dateX xs = (((X1 ++ ⟨#[32]⟩) ++ X2) ++ ⟨#[32]⟩) ++ T6 by
   unfold dateX G.pieceAt
   rw [hX1, hX2, List.getD_eq_getElem?_getD, h6]; rfl)
  have hone : (⟨#[32]⟩ : ByteArray).size = 1 := rfl
  have hs1 : X1.size ≤ 66 := by
   have h1 := G.joinB_size 45 (l := xs.take 3) (k := 21) (fun x hx => hsm x (List.mem_of_mem_take hx))
   rw [hX1, List.length_take, HLx.u.2] at h1; omega
  have hs2 : X2.size ≤ 66 := by
   have h1 := G.joinB_size 58 (l := (xs.drop 3).take 3) (k := 21) (fun x hx => hsm x (List.mem_of_mem_drop (List.mem_of_mem_take hx)))
   rw [hX2, List.length_take, List.length_drop, HLx.u.2] at h1; omega
  have hs6 := hsm T6 (List.mem_of_getElem? h6)
  have z1 : X1.size + (⟨#[32]⟩ : ByteArray).size ≤ 9223372036854775807 := by omega
  have z2 : (X1 ++ ⟨#[32]⟩).size + X2.size ≤ 9223372036854775807 := by rw [ByteArray.size_append]; omega
  have z3 : ((X1 ++ ⟨#[32]⟩) ++ X2).size + (⟨#[32]⟩ : ByteArray).size ≤ 9223372036854775807 := by simp only [ByteArray.size_append]; omega
  have z4 : (((X1 ++ ⟨#[32]⟩) ++ X2) ++ ⟨#[32]⟩).size + T6.size ≤ 9223372036854775807 := by simp only [ByteArray.size_append]; omega
  have y1 : ¬ 9223372036854775807 < X1.size + 1 := by omega
  have y2 : ¬ 9223372036854775807 < X1.size + 1 + X2.size := by omega
  have y3 : ¬ 9223372036854775807 < X1.size + 1 + X2.size + 1 := by omega
  have y4 : ¬ 9223372036854775807 < X1.size + 1 + X2.size + 1 + T6.size := by omega
  have d6 : wr.cell? ⟨b8, 6, none⟩ = some (.string T6) := hW8.cell 6 T6 h6
  have H6 := J h6
  have i1 : (3 : Int) ≤ (cap2 : Int) := by omega
  have i2 : (6 : Int) ≤ (cap2 : Int) := by omega
  have HW := J (show WdsAt wr.drew b8 0 xs from ⟨hW8.cell, hW8.lt⟩)
  have HBb := J (show Below w.heap.size w wr.drew from HR.u.run.bel.drew)
  clear hrun hc8 hW8 h6 hsm hJ hX1 hX2 hone hs1 hs2 hs6 HR hlt hk HXs HSm HIn HP
  go_upto_region 11 with fail
  go_region_held3 (fun w' => w'.cell? ⟨b8, 6, none⟩ = some (.string T6)) (first | exact d6 | go_keep) (first | (go_at_call 51; refine (HJ.u _ HW.u _ _ _ _ (by first | exact HJ1.u | exact HJ2.u)).mono ?_; rintro e w5 ⟨rfl, hb5⟩; have HW := J (HW.u.below hb5); have HBb := J (HBb.u.trans (hb5.mono HBb.u.size)); have d6 := HW.u.cell 6 T6 H6.u; (try (have HE := J (HE.u.below hb5)))) | (go_at_call 35; refine (checkOr E _).mono ?_; rintro e w5 ⟨v5, rfl, he5, hb5⟩; have HW := J (HW.u.below hb5); have HBb := J (HBb.u.trans (hb5.mono HBb.u.size)); have HE := J he5; have d6 := HW.u.cell 6 T6 H6.u))
  all_goals (clear HJ HJ1 HJ2 d6)
  all_goals (go_wp2_with fail)
  all_goals go_ret2
  all_goals (refine ⟨?_, HBb.u⟩; rw [HSz.u, HT.u]; exact ans_or HE.u)
open Go.RowKit
theorem arg_take (ws : List ByteArray) {n k : Nat} (h : k < n) : argV (ws.take n) k = argV ws k := by
 unfold argV G.pieceAt
 rw [List.getD_eq_getElem?_getD, List.getD_eq_getElem?_getD, List.getElem?_take, if_pos h]
theorem crV_ok {s : ByteArray} (h : G.cronCode s = 0) : crV s = crOf s := by
 unfold G.cronCode at h
 unfold crV
 split at h
 ·exact absurd h (by decide)
 split at h
 ·rename_i h2; rw [if_pos h2]
 exact absurd h (by decide)
theorem nextA_bad {ws : List ByteArray} (h : 3 ≤ ws.length) (hn : numsOk (ws.take 2) 2 = false) : nextA ws = .fault 3 (-1) := by
 unfold nextA; rw [if_neg (by omega), if_pos hn]
theorem nextA_cron {ws : List ByteArray} (h : 3 ≤ ws.length) (hn : numsOk (ws.take 2) 2 = true) {Jo : ByteArray} (hJ : G.joinB 32 (ws.drop 2) = Jo) (hc : G.cronCode Jo ≠ 0) : nextA ws = .fault (G.cronCode Jo) (-1) := by
 unfold nextA; rw [if_neg (by omega), if_neg (by rw [hn]; decide), hJ, if_pos hc]
theorem nextA_is {ws : List ByteArray} (h : 3 ≤ ws.length) (hn : numsOk (ws.take 2) 2 = true) {Jo : ByteArray} (hJ : G.joinB 32 (ws.drop 2) = Jo) (hc : G.cronCode Jo = 0) {s z T E : Int} {B : Bool} (h0 : argV ws 0 = s) (h1 : argV ws 1 = z) (hT : (crOf Jo).seekN s z 1 = T) (hB : (crOf Jo).seekB s z 1 = B) (hE : (crOf Jo).seekE s z = E) :
  nextA ws = if E = 0 ∧ B = false then .text dkNone else chk E (G.itoB T) := by
 unfold nextA; rw [if_neg (by omega), if_neg (by rw [hn]; decide), hJ, if_neg (by rw [hc]; simp), h0, h1, hT, hB, hE]
theorem deskNext (v : Value) (ws : List ByteArray) (w : World) (h : WdsIn w v ws) (hs : ∀ x ∈ ws, x.size ≤ 1000000) (hl : ws.length ≤ 1000000) (hE : Env w) :
  Calls Tryz.prog 32 #[v] w (AnsPost (nextA ws) w) := by
 obtain ⟨A, cap, rfl, hcap, hA⟩ := h
 by_cases h3 : ws.length < 3
 ·have hl3 : (ws.length : Int) < 3 := by omega
  have HF := J (show nextA ws = .fault 3 (-1) by unfold nextA; rw [if_pos h3])
  clear hA hs hl hE h3 hcap
  go_enter Tryz.func32, Tryz.ntmps32
  go_wp2_with fail
  refine (check_err (e := 3) (by decide) _).mono ?_
  rintro e w3 ⟨v3, rfl, he, hb3⟩
  have HG := J (show AnsPost (nextA ws) w (.returned (.tuple #[.string ⟨#[]⟩, v3])) w3 from ⟨by rw [HF.u]; exact ans_fault he, hb3⟩)
  obtain ⟨bf, rfl, _⟩ := he
  clear hb3
  go_wp2_with fail
  go_ret2
  exact HG.u
 obtain ⟨b, off, rfl, hW⟩ := hA (by omega)
 have hl3 : ¬ (ws.length : Int) < 3 := by omega
 have i2 : (2 : Int) ≤ (ws.length : Int) := by omega
 have i3 : (2 : Int) ≤ (cap : Int) := by omega
 have i4 : (ws.length : Int) ≤ (cap : Int) := by omega
 obtain ⟨Jo, hJ⟩ : ∃ Jo, G.joinB 32 (ws.drop 2) = Jo := ⟨_, rfl⟩
 obtain ⟨m, hm⟩ := hE.len
 have HN := J (deskNumbers (.slice (some ⟨b, off, none⟩) 2 cap) (ws.take 2) 2 w ⟨_, cap, by rw [List.length_take, show min 2 ws.length = 2 by omega], by rw [List.length_take]; omega, fun _ => ⟨b, off, rfl, hW.take 2⟩⟩ (fun x hx => hs x (List.mem_of_mem_take hx)) (by rw [List.length_take]; omega) (by decide))
 have HJ := J (fun (W : World) (h : WdsAt W b off ws) => show Calls Tryz.prog 51 #[.slice (some ⟨b, off + 2, none⟩) (ws.length - 2) (cap - 2), .string ⟨#[32]⟩] W fun e w' => e = .returned (.string Jo) ∧ Below W.heap.size W w' from by
  rw [← hJ]
  exact joinWords b ws (ws.drop 2) (off + 2) (ws.length - 2) (cap - 2) W (h.drop 2) (by rw [List.length_drop]) (by omega) (fun x hx => hs x (List.mem_of_mem_drop hx)) (by omega))
 have HL3 := J (show 3 ≤ ws.length by omega)
 have HJe := J hJ
 have HW := J hW; have HE := J hE
 clear hA hs hl hE h3 hW hm hcap hJ
 go_enter Tryz.func32, Tryz.ntmps32
 go_wp2_with fail
 refine HN.u.mono ?_
 rintro e w2 hD
 cases hD with
 | bad _ v3 hno he hb =>
  have HF := J (show AnsPost (nextA ws) w (.returned (.tuple #[.string ⟨#[]⟩, v3])) w2 from ⟨by rw [nextA_bad HL3.u hno]; exact ans_fault he, hb⟩)
  obtain ⟨bf, rfl, _⟩ := he
  clear hno hb
  go_wp2_with fail
  go_ret2
  exact HF.u
 | good _ v3 hok hv hb =>
  have HOk := J hok
  have hlen := nums_len hok
  rw [hlen] at hv
  obtain ⟨b1, cap1, rfl, _, _, _, hr⟩ := hv.form (by decide)
  obtain ⟨s, hsv⟩ : ∃ s, argV ws 0 = s := ⟨_, rfl⟩
  obtain ⟨z, hzv⟩ : ∃ z, argV ws 1 = z := ⟨_, rfl⟩
  have c0 := hr.cell (arg_get hok (k := 0) (by decide))
  have c1 := hr.cell (arg_get hok (k := 1) (by decide))
  rw [arg_take ws (by decide), hsv] at c0; rw [arg_take ws (by decide), hzv] at c1
  have HB := J hb
  have HW2 := J (HW.u.below hb)
  have HE2 := J (HE.u.below hb)
  have HS0 := J hsv; have HS1 := J hzv
  clear hok hlen hv hr hb hsv hzv HW HE HN
  go_wp2_with fail
  refine (HJ.u _ HW2.u).mono ?_
  rintro e w3 ⟨rfl, hb3⟩
  have HE3 := J (HE2.u.below hb3)
  have HB3 := J (HB.u.trans (hb3.mono HB.u.size))
  have c0 := cell_b c0 hb3; have c1 := cell_b c1 hb3
  clear hb3 HW2 HE2 HJ
  obtain ⟨m, hm⟩ := HE3.u.len
  obtain ⟨C, hC⟩ : ∃ C, crV Jo = C := ⟨_, rfl⟩
  have HP := J (parseCr Jo C hC m w3 hm)
  obtain ⟨X, hX⟩ : ∃ X, G.cronCode Jo = X := ⟨_, rfl⟩
  rw [hX] at HP
  have HX := J hX; have HC := J hC
  clear hm hX hC
  go_wp2_with fail
  refine HP.u.mono ?_
  rintro e w4 ⟨rfl, hb4⟩
  have hE4 := HE3.u.below hb4
  have hB4 := HB3.u.trans (hb4.mono HB3.u.size)
  have c0 := cell_b c0 hb4; have c1 := cell_b c1 hb4
  have HZ := J (G.At.made w4 92 #[.int .u64 0, .int .u64 0, .int .u64 0, .int .u64 0, .int .u64 0, .bool false, .bool false])
  have hB5 := hel_row ((Below.refl w4.heap.size w4).alloc (Nat.le_refl _) (.cells #[.int .u64 0, .int .u64 0, .int .u64 0, .int .u64 0, .int .u64 0, .bool false, .bool false] 92)) (Nat.le_refl _) C.cells
  have hA5 := hel_set HZ.u C.cells
  have d0 := cell_b c0 hB5; have d1 := cell_b c1 hB5
  clear hb4 HE3 HB3 HP c0 c1
  go_upto_region 7 with (refine wpList_store_row rfl 92 (.tmp 6) (.tmp 28) rfl w4.heap.size C.cells rfl rfl 92 #[.int .u64 0, .int .u64 0, .int .u64 0, .int .u64 0, .int .u64 0, .bool false, .bool false] HZ.u (by kernel_rfl) rfl (by kernel_rfl) ?_)
  obtain ⟨gc, hgc⟩ : ∃ gc, w4.heap.size = gc := ⟨_, rfl⟩
  have HB5 := J (hB4.trans (hB5.mono hB4.size))
  have HE5 := J (hE4.below hB5)
  generalize (w4.alloc (.cells #[.int .u64 0, .int .u64 0, .int .u64 0, .int .u64 0, .int .u64 0, .bool false, .bool false] 92)).setRow w4.heap.size C.cells = W5 at hA5 d0 d1 HB5 HE5 ⊢
  rw [hgc] at hA5 ⊢
  have HA5 := J hA5
  clear hB4 hE4 hB5 HZ hgc hA5
  by_cases hx : X = 0
  ·subst hx
   have HCo := J (show C = crOf Jo from HC.u ▸ crV_ok HX.u)
   obtain ⟨T, hT⟩ : ∃ T, C.seekN s z 1 = T := ⟨_, rfl⟩
   obtain ⟨B, hB⟩ : ∃ B, C.seekB s z 1 = B := ⟨_, rfl⟩
   obtain ⟨E, hEE⟩ : ∃ E, C.seekE s z = E := ⟨_, rfl⟩
   have HNx := J (fun W => show Calls Tryz.prog 53 #[.agg C.cells, .int .i64 s, .int .i64 z] W fun e w' => e = .returned (.tuple #[.int .i64 T, .bool B, .int .i64 E]) ∧ Below W.heap.size W w' from by
    have h := cronNext C (by rw [HCo.u]; exact crP_fits _) s z W
    rw [hT, hB, hEE] at h
    exact h)
   have HA := J (show nextA ws = if E = 0 ∧ B = false then .text dkNone else chk E (G.itoB T) from by
    rw [HCo.u] at hT hB hEE
    exact nextA_is HL3.u HOk.u HJe.u HX.u HS0.u HS1.u hT hB hEE)
   have HTi := J (show -100000000000 ≤ T ∧ T ≤ 100000000000 from hT ▸ seek_in C s z)
   clear hT hB hEE HC HX HJe HS0 HS1 HCo
   go_upto_region 9 with fail
   have hS : W5.cell? ⟨b1, 0, none⟩ = some (.int .i64 s) ∧ W5.cell? ⟨b1, 1, none⟩ = some (.int .i64 z) ∧ G.At W5 gc 92 C.cells := ⟨d0, d1, HA5.u⟩
   refine wp_region_held_drew (S := fun W => W.cell? ⟨b1, 0, none⟩ = some (.int .i64 s) ∧ W.cell? ⟨b1, 1, none⟩ = some (.int .i64 z) ∧ G.At W gc 92 C.cells) (by kernel_rfl) hS (fun _ => ?_)
   change wpAnyH _ _ _ _ _ 15 #[false, false, false, false, false, false, false, false, false, false, false, false, false, false, false] _ (World.drew _)
   refine tk 0 (.agg C.cells) rfl (.inl ⟨by rfl, fun W hW => (hel_load rfl rfl hW.2.2 Tryz.underlying92 rfl (by kernel_rfl))⟩) hS ?_
   simp only [Act.put, tkS]
   refine tq 1 (.slice (some ⟨b1, 0, none⟩) 2 cap1) rfl (fun W hW => ?_) hS ?_
   ·obtain ⟨z0, z1, z2⟩ := hW; go_simp
   simp only [Act.put, tkS]
   refine tq 2 (.pointer (some ⟨b1, 0, none⟩)) rfl (fun W hW => ?_) hS ?_
   ·obtain ⟨z0, z1, z2⟩ := hW; go_simp
   simp only [Act.put, tkS]
   refine tq 3 (.int .i64 s) rfl (fun W hW => ?_) hS ?_
   ·obtain ⟨z0, z1, z2⟩ := hW; go_simp
   simp only [Act.put, tkS]
   refine tq 4 (.slice (some ⟨b1, 0, none⟩) 2 cap1) rfl (fun W hW => ?_) hS ?_
   ·obtain ⟨z0, z1, z2⟩ := hW; go_simp
   simp only [Act.put, tkS]
   refine tq 5 (.pointer (some ⟨b1, 1, none⟩)) rfl (fun W hW => ?_) hS ?_
   ·obtain ⟨z0, z1, z2⟩ := hW; go_simp
   simp only [Act.put, tkS]
   refine tq 6 (.int .i64 z) rfl (fun W hW => ?_) hS ?_
   ·obtain ⟨z0, z1, z2⟩ := hW; go_simp
   simp only [Act.put, tkS]
   refine wpAnyH_ready (rs := [7]) (by kernel_rfl) (by simp) (AllReadyH.cons rfl (fun K hK => ?_) AllReadyH.nil)
   go_simp
   refine (HNx.u _).mono ?_
   rintro e w6 ⟨rfl, hb6⟩
   have HB6 := J (HB5.u.trans ((hel_dr hb6).mono HB5.u.size))
   have HE6 := J (HE5.u.below (hel_dr hb6))
   have hS6 : w6.cell? ⟨b1, 0, none⟩ = some (.int .i64 s) ∧ w6.cell? ⟨b1, 1, none⟩ = some (.int .i64 z) ∧ G.At w6 gc 92 C.cells := ⟨cell_b d0 (hel_dr hb6), cell_b d1 (hel_dr hb6), HA5.u.below (hel_dr hb6) HA5.u.inside⟩
   clear hb6
   go_wp2_with fail
   refine hK.out _ _ hS6 (fun _ => ?_)
   clear hK K
   refine tq 8 (.tuple #[.int .i64 T, .bool B, .int .i64 E]) rfl (fun W hW => ?_) hS6 ?_
   ·obtain ⟨z0, z1, z2⟩ := hW; go_simp
   simp only [Act.put, tkS]
   refine tq 9 (.int .i64 T) rfl (fun W hW => ?_) hS6 ?_
   ·obtain ⟨z0, z1, z2⟩ := hW; go_simp
   simp only [Act.put, tkS]
   refine tq 10 (.bool B) rfl (fun W hW => ?_) hS6 ?_
   ·obtain ⟨z0, z1, z2⟩ := hW; go_simp
   simp only [Act.put, tkS]
   refine tq 11 (.int .i64 E) rfl (fun W hW => ?_) hS6 ?_
   ·obtain ⟨z0, z1, z2⟩ := hW; go_simp
   simp only [Act.put, tkS]
   refine tq 12 (.int .i64 T) rfl (fun W hW => ?_) hS6 ?_
   ·obtain ⟨z0, z1, z2⟩ := hW; go_simp
   simp only [Act.put, tkS]
   refine tq 13 (.bool B) rfl (fun W hW => ?_) hS6 ?_
   ·obtain ⟨z0, z1, z2⟩ := hW; go_simp
   simp only [Act.put, tkS]
   refine tq 14 (.int .i64 E) rfl (fun W hW => ?_) hS6 ?_
   ·obtain ⟨z0, z1, z2⟩ := hW; go_simp
   simp only [Act.put, tkS]
   clear hS hS6 d0 d1 HA5 HNx
   refine wpAnyH_done (by kernel_rfl) ?_ _
   by_cases hn : E = 0 ∧ B = false
   ·obtain ⟨rfl, rfl⟩ := hn
    have HF := J (show AnsPost (nextA ws) w (.returned (.tuple #[.string ⟨#[110, 111, 110, 101]⟩, .nilIface])) w6 from ⟨by rw [HA.u, if_pos ⟨rfl, rfl⟩]; rfl, HB6.u⟩)
    clear HA
    go_wp2_with fail
    go_ret2
    exact HF.u
   have HA2 := J (show nextA ws = chk E (G.itoB T) by rw [HA.u, if_neg hn])
   have HIt := J (itoaAny T ⟨by have := HTi.u; omega, by have := HTi.u; omega⟩ w6 HE6.u.pow)
   clear HA
   by_cases hE0 : E = 0
   ·subst hE0
    obtain rfl : B = true := by
     cases B with
     | true => rfl
     | false => exact absurd ⟨rfl, rfl⟩ hn
    clear hn
    go_wp2_with fail
    refine HIt.u.mono ?_
    rintro e w7 ⟨rfl, hb7⟩
    have HB7 := J (HB6.u.trans (hb7.mono HB6.u.size))
    clear hb7
    go_wp2_with fail
    refine (checkOr _ _).mono ?_
    rintro e w8 ⟨v8, rfl, he, hb8⟩
    have HG := J (show AnsPost (nextA ws) w (.returned (.tuple #[.string (G.itoB T), v8])) w8 from ⟨by rw [HA2.u]; exact ans_or he, HB7.u.trans (hb8.mono HB7.u.size)⟩)
    clear he hb8
    go_wp2_with fail
    go_ret2
    exact HG.u
   have e0 : (E == 0) = false := by simpa using hE0
   clear hn hE0
   go_wp2_with fail
   refine HIt.u.mono ?_
   rintro e w7 ⟨rfl, hb7⟩
   have HB7 := J (HB6.u.trans (hb7.mono HB6.u.size))
   clear hb7
   go_wp2_with fail
   refine (checkOr _ _).mono ?_
   rintro e w8 ⟨v8, rfl, he, hb8⟩
   have HG := J (show AnsPost (nextA ws) w (.returned (.tuple #[.string (G.itoB T), v8])) w8 from ⟨by rw [HA2.u]; exact ans_or he, HB7.u.trans (hb8.mono HB7.u.size)⟩)
   clear he hb8
   go_wp2_with fail
   go_ret2
   exact HG.u
  have hxb : (X == 0) = false := by simpa using hx
  have HF := J (nextA_cron HL3.u HOk.u HJe.u (by rw [HX.u]; exact hx))
  rw [HX.u] at HF
  have HCk := J (fun W => check_err hx W)
  clear hx HX HC d0 d1 HA5
  go_wp2_with fail
  refine (HCk.u _).mono ?_
  rintro e w5 ⟨v5, rfl, he, hb5⟩
  have HG := J (show AnsPost (nextA ws) w (.returned (.tuple #[.string ⟨#[]⟩, v5])) w5 from ⟨by rw [HF.u]; exact ans_fault he, HB5.u.trans (hb5.mono HB5.u.size)⟩)
  obtain ⟨bf, rfl, _⟩ := he
  clear hb5
  go_wp2_with fail
  go_ret2
  exact HG.u
open Go.RowKit
theorem chgR_below {R : Nat → Prop} {w w' : World} (h : Below w.heap.size w w') : G.Chg (fun b => ¬ R b) w w' := G.Chg.of_below h (Nat.le_refl _)
theorem moreA_long {d : Dk} {ws : List ByteArray} {Jo : ByteArray} (h0 : ws ≠ []) (hJ : G.joinB 32 ws = Jo) (h : 2048 < d.text.size + (Jo ++ ⟨#[10]⟩).size) : moreA d ws = (.fault 2 (-1), d) := by
 unfold moreA planLn; rw [if_neg h0, hJ, if_pos h]
theorem moreA_is {d : Dk} {ws : List ByteArray} {Jo : ByteArray} (h0 : ws ≠ []) (hJ : G.joinB 32 ws = Jo) (h : ¬ 2048 < d.text.size + (Jo ++ ⟨#[10]⟩).size) : moreA d ws = (.text dkOk, { d with text := d.text ++ (Jo ++ ⟨#[10]⟩) }) := by
 unfold moreA planLn; rw [if_neg h0, hJ, if_neg h]
theorem deskMore {R : Nat → Prop} {g : Nat} {d : Dk} (v : Value) (ws : List ByteArray) (w : World) (h : WdsIn w v ws) (hs : ∀ x ∈ ws, x.size ≤ 1000000) (hl : ws.length ≤ 1000000) (hD : DkN R w g d) (hd : d.text.size ≤ 2048) :
  Calls Tryz.prog 33 #[.pointer (some ⟨g, 0, none⟩), v] w (DkPost R w g (moreA d ws)) := by
 obtain ⟨A, cap, rfl, hcap, hA⟩ := h
 by_cases h0 : ws = []
 ·subst h0
  have HF := J (show moreA d [] = (.fault 3 (-1), d) from if_pos rfl)
  have HD := J hD
  clear hA hs hl hd hcap hD
  go_enter Tryz.func33, Tryz.ntmps33
  go_wp2_with fail
  refine (check_err (e := 3) (by decide) _).mono ?_
  rintro e w3 ⟨v3, rfl, he, hb3⟩
  have HG := J (show DkPost R w g (moreA d []) (.returned (.tuple #[.string ⟨#[]⟩, v3])) w3 from by rw [HF.u]; exact DkPost.of HD.u ⟨ans_fault he, hb3⟩)
  obtain ⟨bf, rfl, _⟩ := he
  clear hb3
  go_wp2_with fail
  go_ret2
  exact HG.u
 have hp : 0 < ws.length := List.length_pos_iff.2 h0
 obtain ⟨b, off, rfl, hW⟩ := hA hp
 have hp2 : ((ws.length : Int) == 0) = false := by simp; exact h0
 obtain ⟨Jo, hJ⟩ : ∃ Jo, G.joinB 32 ws = Jo := ⟨_, rfl⟩
 have HJ := J (show Calls Tryz.prog 51 #[.slice (some ⟨b, off, none⟩) ws.length cap, .string ⟨#[32]⟩] w fun e w' => e = .returned (.string Jo) ∧ Below w.heap.size w w' from by
  rw [← hJ]
  exact joinWords b ws ws off ws.length cap w hW rfl hcap hs (by omega))
 have hJs : Jo.size ≤ 1000001000000 := by
  have h1 := G.joinB_size 32 (l := ws) (k := 1000000) hs
  rw [hJ] at h1
  have h3 : (1000000 + 1) * ws.length ≤ (1000000 + 1) * 1000000 := Nat.mul_le_mul_left _ hl
  omega
 have hone : (⟨#[10]⟩ : ByteArray).size = 1 := rfl
 have z1 : Jo.size + (⟨#[10]⟩ : ByteArray).size ≤ 9223372036854775807 := by omega
 have hsz := hJs
 have H0 := J h0; have HJe := J hJ
 have HD := J hD
 clear hA hs hl hcap hD hW hJ h0 hJs hone
 go_enter Tryz.func33, Tryz.ntmps33
 go_wp2_with fail
 refine HJ.u.mono ?_
 rintro e w2 ⟨rfl, hb⟩
 have HB := J hb
 have HD2 := J (HD.u.below hb)
 clear hb HJ
 obtain ⟨wp, hat, _⟩ := HD2.u.ex
 have c0 := hat.here (i := 0) rfl
 have f0 := hat.soft 0
 clear hat
 by_cases hlong : 2048 < d.text.size + (Jo ++ ⟨#[10]⟩ : ByteArray).size
 ·have HF := J (moreA_long (d := d) H0.u HJe.u hlong)
  have hlong2 : (2048 : Int) < (d.text.size : Int) + ((Jo.size : Int) + 1) := by rw [ByteArray.size_append] at hlong; have : (⟨#[10]⟩ : ByteArray).size = 1 := rfl; omega
  have z3 : (d.text.size : Int) ≤ 2048 := by omega
  have z4 : (Jo.size : Int) ≤ 1000001000000 := by omega
  clear hsz
  go_wp2_with fail
  refine (check_err (e := 2) (by decide) _).mono ?_
  rintro e w3 ⟨v3, rfl, he, hb3⟩
  have HG := J (show DkPost R w g (moreA d ws) (.returned (.tuple #[.string ⟨#[]⟩, v3])) w3 from by rw [HF.u]; exact DkPost.of HD.u ⟨ans_fault he, HB.u.trans (hb3.mono HB.u.size)⟩)
  obtain ⟨bf, rfl, _⟩ := he
  clear hb3
  go_wp2_with fail
  go_ret2
  exact HG.u
 have HF := J (moreA_is (d := d) H0.u HJe.u hlong)
 have hs2 := hlong; rw [ByteArray.size_append, show (⟨#[10]⟩ : ByteArray).size = 1 from rfl] at hs2
 have hlong2 : ¬ (2048 : Int) < (d.text.size : Int) + ((Jo.size : Int) + 1) := by omega
 have z2 : d.text.size + (Jo.size + 1) ≤ 9223372036854775807 := by omega
 have z3 : (d.text.size : Int) ≤ 2048 := by omega
 have z4 : (Jo.size : Int) ≤ 1000001000000 := by omega
 clear hs2 hsz
 go_wp2_with fail
 go_ret2
 rw [HF.u]
 exact ⟨rfl, (HD2.u.put _).1, (chgR_below HB.u).trans (HD2.u.put _).2⟩
end Go.Proofs.YtoidcbpcnikejaaGreatDoor
