/- The contract of (*loop.Loop).Look. -/
import Derived.Test.YtoidcbpcnikejaaGreatDoorDqLopD
set_option linter.unusedVariables false
set_option linter.unusedSimpArgs false
set_option maxRecDepth 100000
set_option maxHeartbeats 12800000
namespace Go.Proofs.YtoidcbpcnikejaaGreatDoor
open Go.RowKit
structure Lk (S1 S2 R : Nat → Prop) (w wx : World) (g gs : Nat) (vt vf vw vm : Value) (l : Lp) (v : Value) (rs : List RdV) : Prop where
 lop : LopAt 219 257 290 S1 S2 wx g gs vt vf vw vm l
 box : G.At wx w.heap.size 150 #[.pointer (some ⟨g, 0, none⟩)]
 rds : RdsIn R wx v rs
 chg : G.Chg S1 w wx
 one : ∀ b, S1 b → b < w.heap.size
 two : ∀ b, S2 b → b < w.heap.size
 read : ∀ b, R b → ¬ S1 b ∧ ¬ S2 b
section
variable {S1 S2 R : Nat → Prop} {w wx wy : World} {g gs : Nat} {vt vf vw vm : Value} {l : Lp} {v : Value} {rs : List RdV}
theorem Lk.below (h : Lk S1 S2 R w wx g gs vt vf vw vm l v rs) (hb : Below wx.heap.size wx wy) : Lk S1 S2 R w wy g gs vt vf vw vm l v rs :=
 ⟨h.lop.below hb, h.box.below hb h.box.inside, h.rds.below hb, h.chg.step_below hb h.chg.size, h.one, h.two, h.read⟩
theorem Lk.alloc (h : Lk S1 S2 R w wx g gs vt vf vw vm l v rs) (o : Obj) : Lk S1 S2 R w (wx.alloc o) g gs vt vf vw vm l v rs := h.below ((Below.refl _ _).alloc (Nat.le_refl _) o)
theorem Lk.drew (h : Lk S1 S2 R w wx g gs vt vf vw vm l v rs) : Lk S1 S2 R w wx.drew g gs vt vf vw vm l v rs := h.below (Below.refl _ _).drew
theorem Lk.put (h : Lk S1 S2 R w wx g gs vt vf vw vm l v rs) {l' : Lp} {i : Nat} {u : Value} (hp : l'.p.trigs = l.p.trigs) (hf : l'.fails = l.fails) (hs : l'.s = l.s)
  (hc : (lopCells l gs vt vf).setIfInBounds i u = lopCells l' gs vt vf) : Lk S1 S2 R w (wx.setCell ⟨g, i, none⟩ u) g gs vt vf vw vm l' v rs :=
 ⟨h.lop.put (by decide) (by decide) hp hf hs hc, h.box.other (fun e => by have := h.one g h.lop.own; simp at e; omega) u,
  h.rds.chg ((G.Chg.refl (fun b => b = g) wx).put (p := ⟨g, i, none⟩) (.inl rfl) u) (fun b hb e => (h.read b hb).1 (e ▸ h.lop.own)), h.chg.put (.inl h.lop.own) u, h.one, h.two, h.read⟩
theorem Lk.fail (h : Lk S1 S2 R w wx g gs vt vf vw vm l v rs) {k bf cf : Nat} {x : Int} (hv : vf = .slice (some ⟨bf, 0, none⟩) l.fails.length cf) (hk : k < l.fails.length) :
  Lk S1 S2 R w (wx.setCell ⟨bf, k, none⟩ (.int .i64 x)) g gs vt vf vw vm { l with fails := l.fails.set k x } v rs := by
 have hb : S1 bf := (h.lop.fls.block bf (by rw [hv]; rfl)).1
 exact ⟨h.lop.fail (by decide) hv hk, h.box.other (fun e => by have := h.one bf hb; simp at e; omega) _,
  h.rds.chg ((G.Chg.refl (fun b => b = bf) wx).put (p := ⟨bf, k, none⟩) (.inl rfl) _) (fun b hb2 e => (h.read b hb2).1 (e ▸ hb)), h.chg.put (.inl hb) _, h.one, h.two, h.read⟩
end
theorem slice_eq {A A' : Option Addr} {n n' c c' : Nat} (h : Value.slice A n c = .slice A' n' c') : A = A' ∧ n = n' ∧ c = c' := by cases h; exact ⟨rfl, rfl, rfl⟩
def toldK (l : Lp) (sec have0 : Int) (rs : List Rd) (busy : Bool) (k : Nat) : Int × Bool := allT l.p sec have0 (l.p.trigs.take k) (rs.take k) (l.fails.take k) (0, busy)
theorem allT_snoc {p : Pln} {sec have0 : Int} : ∀ {ts : List Trg} {rs : List Rd} {fs : List Int} {k : Nat} {t : Trg} {r : Rd} {f : Int} {x : Int × Bool}, ts[k]? = some t → rs[k]? = some r → fs[k]? = some f →
  allT p sec have0 (ts.take (k + 1)) (rs.take (k + 1)) (fs.take (k + 1)) x = (max (allT p sec have0 (ts.take k) (rs.take k) (fs.take k) x).1 (oneT p t f r sec have0).1, (allT p sec have0 (ts.take k) (rs.take k) (fs.take k) x).2 || (oneT p t f r sec have0).2)
 | [], _, _, k, _, _, _, _, h, _, _ => by simp at h
 | _ :: _, [], _, k, _, _, _, _, _, h, _ => by simp at h
 | _ :: _, _ :: _, [], k, _, _, _, _, _, _, h => by simp at h
 | t :: ts, r :: rs, f :: fs, 0, _, _, _, (w, b), h1, h2, h3 => by simp at h1 h2 h3; subst h1; subst h2; subst h3; simp [allT]
 | t :: ts, r :: rs, f :: fs, k + 1, _, _, _, (w, b), h1, h2, h3 => by
  simp only [List.take_succ_cons]
  show allT p sec have0 (ts.take (k + 1)) (rs.take (k + 1)) (fs.take (k + 1)) _ = _
  rw [allT_snoc (by simpa using h1) (by simpa using h2) (by simpa using h3)]
  rfl
theorem toldK_zero (l : Lp) (sec have0 : Int) (rs : List Rd) (busy : Bool) : toldK l sec have0 rs busy 0 = (0, busy) := by simp [toldK, allT]
theorem toldK_all {l : Lp} {sec have0 : Int} {rs : List Rd} {busy : Bool} {n : Nat} (h1 : l.p.trigs.length = n) (h2 : rs.length = n) (h3 : l.fails.length = n) : toldK l sec have0 rs busy n = l.told sec have0 rs busy := by
 unfold toldK Lp.told
 rw [List.take_of_length_le (by omega), List.take_of_length_le (by omega), List.take_of_length_le (by omega)]
theorem clipOf_bd {low mx n : Int} (h0 : 0 ≤ low) (h1 : 0 ≤ mx) (h2 : mx ≤ 50) : 0 ≤ clipOf low mx n ∧ clipOf low mx n ≤ 50 := by unfold clipOf; omega
theorem lowOf_nonneg {p : Pln} (h : 0 ≤ p.mn) (needed now have0 : Int) (b : Bool) : 0 ≤ lowOf p needed now have0 b := by
 unfold lowOf; split
 ·omega
 split <;> omega
theorem look_fine {l : Lp} {now sec have0 : Int} {rs : List Rd} {busy : Bool} (hn : lookOk l now sec have0 rs.length = true) (hp : l.pause < 0) :
  lookN l now sec have0 rs busy = clipOf (lowOf l.p ((l.seen now rs).marked now ((l.seen now rs).told sec have0 rs busy).2).needed now have0 ((l.seen now rs).told sec have0 rs busy).2) l.p.mx (G.settleN l.s now have0 ((l.seen now rs).wish now sec have0 rs busy)) ∧ lookE l now sec have0 rs.length = 0 ∧
  lookL l now sec have0 rs busy = { (l.seen now rs).marked now ((l.seen now rs).told sec have0 rs busy).2 with s := G.settleS l.s now have0 ((l.seen now rs).wish now sec have0 rs busy) } := by
 unfold lookN lookE lookL
 rw [hn]
 refine ⟨?_, rfl, ?_⟩
 ·rw [if_neg (by simp), if_neg (by omega)]
 rw [if_neg (by simp), if_neg (by omega)]
theorem look_pause {T TS TM : TypeId} {S1 S2 : Nat → Prop} {w wx : World} {g gs : Nat} {vt vf vw vm : Value} {l : Lp} {now sec have0 : Int} {rs : List Rd} {busy : Bool} (hn : lookOk l now sec have0 rs.length = true) (hp : 0 ≤ l.pause) (h : LopAt T TS TM S1 S2 wx g gs vt vf vw vm (l.seen now rs)) (hc : G.Chg S1 w wx) (h0 : ∀ b, S1 b → b < w.heap.size) (w' : World) (hb : Below wx.heap.size wx w') :
  LookPost T TS TM S1 S2 w g gs vt vf l now sec have0 rs busy (.returned (.tuple #[.int .i64 l.pause, .int .i64 0])) w' := by
 refine ⟨by unfold lookN lookE; rw [hn]; simp [hp], ⟨vw, vm, ?_⟩, (hc.step_below hb hc.size).mono fun _ _ h => .inl h⟩
 unfold lookL; rw [hn, if_neg (by simp), if_pos hp]
 exact (h.below hb).up h0
theorem look_end {T TS TM : TypeId} {S1 S2 : Nat → Prop} {w w1 w2 w' : World} {g gs : Nat} {vt vf vw vm vw' vm' : Value} {l M : Lp} {now sec have0 x y : Int} {rs : List Rd} {busy : Bool} (hn : lookOk l now sec have0 rs.length = true) (hp : l.pause < 0)
  (hM : (l.seen now rs).marked now ((l.seen now rs).told sec have0 rs busy).2 = M) (hx : (l.seen now rs).wish now sec have0 rs busy = x) (hy : clipOf (lowOf M.p M.needed now have0 ((l.seen now rs).told sec have0 rs busy).2) M.p.mx (G.settleN M.s now have0 x) = y)
  (h : LopAt T TS TM S1 S2 w1 g gs vt vf vw vm M) (hc : G.Chg S1 w w1) (h0 : ∀ b, S1 b → b < w.heap.size)
  (hs : StbAt TS TM (G.Plus S2 w1 w2) w2 gs (G.settleS M.s now have0 x) vw' vm') (hc2 : G.Chg S2 w1 w2) (hb : Below w2.heap.size w2 w') :
  LookPost T TS TM S1 S2 w g gs vt vf l now sec have0 rs busy (.returned (.tuple #[.int .i64 y, .int .i64 0])) w' := by
 obtain ⟨e1, e2, e3⟩ := look_fine (busy := busy) hn hp
 have ep : M.p = l.p := by rw [← hM]; cases ((l.seen now rs).told sec have0 rs busy).2 <;> rfl
 have es : M.s = l.s := by rw [← hM]; cases ((l.seen now rs).told sec have0 rs busy).2 <;> rfl
 have z1 := hc.size; have z2 := hc2.size; have z3 := hb.size
 refine ⟨?_, ⟨vw', vm', ?_⟩, ?_⟩
 ·rw [e1, e2, hM, hx, ← hy, ep, es]
 ·rw [e3, hM, hx, ← es]
  have hd : ∀ b, S1 b → ¬ G.Plus S2 w w' b := fun b hb1 h2 => by
   rcases h2 with h2 | h2
   ·exact h.dis b hb1 h2
   have := h0 b hb1; omega
  have hl : ∀ b, G.Plus S2 w w' b → b < w'.heap.size := fun b h2 => by
   rcases h2 with h2 | h2
   ·have := h.st.lim b h2; omega
   exact h2.2
  refine ⟨(h.head.chg hc2 (h.dis g h.own)).below hb (by have := h.head.inside; omega), (h.trg.chg hc2 h.dis).below hb (Nat.le_refl _), (h.fls.chg hc2 h.dis).below hb (Nat.le_refl _), (hs.below hb).mono (fun b hlt hb2 => ?_) hl, h.own, hd, fun b hb1 => by have := h0 b hb1; omega⟩
  rcases hb2 with hb2 | hb2
  ·exact .inl hb2
  exact .inr ⟨by omega, hlt⟩
 refine ((hc.mono fun _ _ h => Or.inl h).trans ?_).step_below hb (by omega)
 exact hc2.mono fun _ _ h => Or.inr h
theorem lopLookYes (S1 S2 R : Nat → Prop) (g gs : Nat) (vt vf vw vm v : Value) (l : Lp) (now sec have0 : Int) (rs : List RdV) (busy : Bool) (j : Nat) (w : World) (h : LopAt 219 257 290 S1 S2 w g gs vt vf vw vm l) (hr : RdsIn R w v rs)
  (hRS : ∀ b, R b → ¬ S1 b ∧ ¬ S2 b) (hl : l.ok j) (hj : j ≤ 290000) (hok : lookOk l now sec have0 rs.length = true) :
  Calls Tryz.prog 163 #[.pointer (some ⟨g, 0, none⟩), .int .i64 now, .int .i64 sec, .int .i64 have0, v, .bool busy] w (LookPost 219 257 290 S1 S2 w g gs vt vf l now sec have0 (rs.map RdV.rd) busy) := by
 have hpl := planE_ok hl.plan
 have HOK := J (show lookOk l now sec have0 (rs.map RdV.rd).length = true by rw [List.length_map]; exact hok)
 have HP := J (fun (wx : World) (hp : 0 ≤ l.pause) hL (hc : G.Chg S1 w wx) => look_pause (T := 219) (TS := 257) (TM := 290) (S1 := S1) (S2 := S2) (w := w) (wx := wx) (g := g) (gs := gs) (vt := vt) (vf := vf) (vw := vw) (vm := vm) (busy := busy) HOK.u hp hL hc h.lim)
 have HS0 := J (show G.Stb.ok l.s j from hl.st)
 have HSl := J (show l.s.last ≤ l.last from hl.sl)
 have HFb := J hl.fail
 have HFit := J hl.fits
 obtain ⟨A, cap, rfl, _⟩ := hr.list
 obtain ⟨At, capt, rfl, _, _, _⟩ := h.trg.slice
 obtain ⟨Af, capf, rfl, _, _, _⟩ := h.fls.slice
 have HFl := J (show l.fails.length = l.p.trigs.length from hl.many)
 have HK0 := J (show Lk S1 S2 R w (w.alloc (.cells #[.pointer (some ⟨g, 0, none⟩)] 150)) g gs _ _ vw vm l _ rs from
  ⟨h.alloc _, G.At.made _ _ _, hr.below ((Below.refl _ _).alloc (Nat.le_refl _) _), (G.Chg.refl _ _).alloc _, h.lim, h.st.lim, hRS⟩)
 unfold lookOk at hok
 simp only [Bool.and_eq_true, decide_eq_true_eq] at hok
 obtain ⟨b0, b1, b2, b3, b4, b5, b6⟩ := hok
 have HN := J b6
 have hnb : ((rs.length : Int) != (l.p.trigs.length : Int)) = false := by rw [b6]; simp
 have hfew : (l.p.trigs.length : Int) ≤ 5 := by have := hpl.few; omega
 have hfew2 : (rs.length : Int) ≤ 5 := by omega
 have hfew3 : (l.fails.length : Int) ≤ 5 := by have := HFl.u; omega
 have HPl := J hpl
 have hlast0 := hl.last0
 have hj2 : (j : Int) ≤ 290000 := by omega
 clear h hr hl hpl hRS b6
 go_enter Tryz.func163, Tryz.ntmps163
 go_upto_region 1 with fail
 generalize w.alloc (.cells #[.pointer (some ⟨g, 0, none⟩)] 150) = W at HK0 ⊢
 have xb := HK0.u.box.here (i := 0) rfl
 have x21 := HK0.u.lop.head.here (i := 21) rfl
 have x17 := HK0.u.lop.head.here (i := 17) rfl
 go_upto_region 3 with fail
 go_cut [] (fun wx => Hid (Lk S1 S2 R w wx g gs (.slice At l.p.trigs.length capt) (.slice Af l.fails.length capf) vw vm { l with looked := true, last := now } (.slice A rs.length cap) rs))
 case first =>
  have x20 := HK0.u.lop.head.here (i := 20) rfl
  have p20 := HK0.u.lop.head.soft 20
  have p21 := HK0.u.lop.head.soft 21
  go_region
  all_goals
   go_wp2_with fail
   go_meet
   first
    | exact J ((HK0.u.put (l' := { l with looked := true }) (i := 20) (u := .bool true) rfl rfl rfl rfl).put (l' := { l with looked := true, last := now }) (i := 21) (u := .int .i64 now) rfl rfl rfl rfl).drew
    | exact J ((HK0.u.put (l' := { l with last := now }) (i := 21) (u := .int .i64 now) rfl rfl rfl rfl).put (l' := { l with looked := true, last := now }) (i := 20) (u := .bool true) rfl rfl rfl rfl).drew
 have HK1 := hcut
 clear hcut HK0 xb x21 x17 hnb
 obtain ⟨F, HF0⟩ : ∃ F, Hid (failsL l.p.trigs (rs.map RdV.rd) l.fails = F) := ⟨_, J rfl⟩
 have HFn := J (show F.length = rs.length by rw [← HF0.u]; exact failsL_length HN.u.symm (by rw [List.length_map]) (HFl.u.trans HN.u.symm))
 have HFn2 := J (HFl.u.trans HN.u.symm)
 go_upto_region 4 with fail
 as_aux_lemma =>
 go_wp2_with fail
 go_loopw [72] (fun i wr => ∃ k : Nat, k ≤ rs.length ∧ i = .int .i64 k ∧ Hid (Lk S1 S2 R w wr g gs (.slice At l.p.trigs.length capt) (.slice Af l.fails.length capf) vw vm { l with looked := true, last := now, fails := mixed F l.fails k } (.slice A rs.length cap) rs)) (fun i _ => rs.length - (intOf i).toNat)
 case atStart => exact ⟨0, Nat.zero_le _, rfl, by rw [mixed_zero]; exact HK1⟩
 obtain ⟨k, hk, rfl, HK⟩ := hrel
 by_cases hlt : k < rs.length
 ·obtain ⟨r, hr⟩ := G.get_some rs hlt
  obtain ⟨t, ht⟩ := G.get_some l.p.trigs (show k < l.p.trigs.length by have := HN.u; omega)
  obtain ⟨f, hf⟩ := G.get_some l.fails (show k < l.fails.length by have := HFn2.u; omega)
  obtain ⟨_, b, off, rfl, d0, d1⟩ := HK.u.rds.at hr
  obtain ⟨bt, ct, et, hbt, hct⟩ := trig_row HK.u.lop.trg ht
  obtain ⟨rfl, _, rfl⟩ := slice_eq et
  obtain ⟨bf, cf, ef, hbf, c0⟩ := int_row HK.u.lop.fls (show (mixed F l.fails k)[k]? = some f by rw [mixed_get HFn.u hlt]; exact hf)
  obtain ⟨rfl, ef2, rfl⟩ := slice_eq ef
  have hfb := HFb.u f (List.mem_of_getElem? hf)
  have hfx := failsL_get (r := r.rd) ht (by rw [List.getElem?_map, hr]; rfl) hf
  rw [HF0.u] at hfx
  have HA := J (HK.u.alloc (.cells #[.bool r.failed, .slice r.A r.xs.length r.cap] 264))
  have HX := J (G.At.made wr 264 #[.bool r.failed, .slice r.A r.xs.length r.cap])
  have hbw := (Below.refl wr.heap.size wr).alloc (Nat.le_refl _) (.cells #[.bool r.failed, .slice r.A r.xs.length r.cap] 264)
  have HC0 := J ((hbw.cell (p := ⟨bf, k, none⟩) hbf).trans c0)
  have HCt := J ((hbw.cell (p := ⟨bt, k * 17, none⟩) hbt).trans (hct 0 _ rfl))
  have HP0 := J (show (wr.alloc (.cells #[.bool r.failed, .slice r.A r.xs.length r.cap] 264)).frozen? ⟨bf, k, none⟩ = false from by
   obtain ⟨b9, c9, e9, _, _, _, h9⟩ := HA.u.lop.fls.form (show 0 < (mixed F l.fails k).length by rw [← ef2]; have := HFn2.u; omega)
   obtain ⟨e8, _, _⟩ := slice_eq e9
   cases e8
   exact h9.soft k)
  have HE := J (fun (x : Int) (hx : failOf t r.rd f = x) => (show Lk S1 S2 R w _ g gs _ _ vw vm { l with looked := true, last := now, fails := mixed F l.fails (k + 1) } _ rs from by
   have := HA.u.fail (x := x) (by rw [← ef2]) (show k < (mixed F l.fails k).length by rw [← ef2]; have := HFn2.u; omega)
   rw [mixed_set HFn.u HFn2.u hlt (hx ▸ hfx)] at this
   exact this))
  have k0 : (0 : Int) ≤ (k : Int) := by omega
  have k1 : (k : Int) < (rs.length : Int) := by omega
  have k2 : (k : Int) < (l.p.trigs.length : Int) := by have := HN.u; omega
  have k3 : (k : Int) < (l.fails.length : Int) := by have := HFn2.u; omega
  have xb := HK.u.box.here (i := 0) rfl
  obtain ⟨f0, f1⟩ := hfb
  have hfo := J (show failOf t r.rd f = if r.failed && !(t.kind == 3) then f + 1 else 0 from rfl)
  clear HK hr ht hf et hbt hct ef hbf c0 hfx ef2 hbw
  go_upto_region 7 with fail
  clear d0 d1 xb
  have xb := HA.u.box.here (i := 0) rfl
  have x17 := HA.u.lop.head.here (i := 17) rfl
  have x19 := HA.u.lop.head.here (i := 19) rfl
  have y0 := HX.u.here (i := 0) rfl
  have ct0 := HCt.u
  have cf0 := HC0.u
  have pf0 := HP0.u
  generalize wr.alloc (.cells #[.bool r.failed, .slice r.A r.xs.length r.cap] 264) = W1 at HA HX HC0 HCt HP0 HE xb x17 x19 y0 ct0 cf0 pf0 ⊢
  generalize r.failed = rf at hfo y0 HX
  cases rf
  case false =>
   have HEx := J (HE.u 0 (by rw [hfo.u]; rfl))
   clear HE hfo HX HC0 HCt HP0
   go_wp2_with fail
   go_roundw
   case rel => exact ⟨k + 1, by omega, by go_num, HEx⟩
   case measure => simp [intOf]; omega
  by_cases hk3 : t.kind = 3
  ·have HEx := J (HE.u 0 (by rw [hfo.u, hk3]; rfl))
   have hkb : (t.kind != 3) = false := by rw [hk3]; rfl
   clear HE hfo HX HC0 HCt HP0 hk3
   go_wp2_with fail
   go_roundw
   case rel => exact ⟨k + 1, by omega, by go_num, HEx⟩
   case measure => simp [intOf]; omega
  have HEx := J (HE.u (f + 1) (by rw [hfo.u, show (t.kind == 3) = false by simpa using hk3]; rfl))
  have hkb : (t.kind != 3) = true := by simpa using hk3
  clear HE hfo HX HC0 HCt HP0
  go_wp2_with fail
  go_roundw
  case rel => exact ⟨k + 1, by omega, by go_num, HEx⟩
  case measure => simp [intOf]; omega
 have hke : k = rs.length := by omega
 subst hke
 rw [mixed_all HFn.u HFn2.u] at HK
 have HK2 : Hid (Lk S1 S2 R w wr g gs (.slice At l.p.trigs.length capt) (.slice Af l.fails.length capf) vw vm (l.seen now (rs.map RdV.rd)) (.slice A rs.length cap) rs) := by
  have e : l.seen now (rs.map RdV.rd) = { l with looked := true, last := now, fails := F } := by unfold Lp.seen; rw [HF0.u]
  rw [e]; exact HK
 have HFs := J (show (l.seen now (rs.map RdV.rd)).fails.length = rs.length by show (failsL _ _ _).length = _; rw [HF0.u]; exact HFn.u)
 have xb := HK2.u.box.here (i := 0) rfl
 have x23 : wr.cell? ⟨g, 23, none⟩ = some (.int .i64 l.pause) := HK2.u.lop.head.here (i := 23) rfl
 clear HK HK1 HFn HFn2 HF0 HFb
 by_cases hp : 0 ≤ l.pause
 ·have HPe := J (fun w' hb => HP.u wr hp HK2.u.lop HK2.u.chg w' hb)
  clear HP
  go_wp2_with fail
  go_ret2
  exact HPe.u _ (Below.refl _ _)
 have hp2 : l.pause < 0 := by omega
 have HD := J (fun (M : Lp) (x y : Int) (w1 w2 w' : World) (vw' vm' : Value) hM hx hy h1 hc h0 hs hc2 hb => look_end (T := 219) (TS := 257) (TM := 290) (S1 := S1) (S2 := S2) (w := w) (w1 := w1) (w2 := w2) (w' := w') (g := g) (gs := gs) (vt := .slice At l.p.trigs.length capt) (vf := .slice Af l.fails.length capf) (vw := vw) (vm := vm) (vw' := vw') (vm' := vm') (l := l) (M := M) (now := now) (sec := sec) (have0 := have0) (x := x) (y := y) (rs := rs.map RdV.rd) (busy := busy) HOK.u hp2 hM hx hy h1 hc h0 hs hc2 hb)
 have HM0 := J (show l.p = (l.seen now (rs.map RdV.rd)).p from rfl)
 have HMs := J (show l.s = (l.seen now (rs.map RdV.rd)).s from rfl)
 clear HP hp HOK
 obtain ⟨L, hL⟩ : ∃ L, l.seen now (rs.map RdV.rd) = L := ⟨_, rfl⟩
 rw [hL] at HK2 HM0 HMs HFs
 have HDL := J hL
 clear hL
 rename World => wo
 as_aux_lemma =>
 go_wp2_with fail
 go_loopw [16, 17, 119] (fun a b i wr => ∃ k : Nat, k ≤ rs.length ∧ i = .int .i64 k ∧ a = .int .i64 (toldK L sec have0 (rs.map RdV.rd) busy k).1 ∧ b = .bool (toldK L sec have0 (rs.map RdV.rd) busy k).2 ∧ Hid (Below wo.heap.size wo wr)) (fun _ _ i _ => rs.length - (intOf i).toNat)
 case atStart => exact ⟨0, Nat.zero_le _, rfl, by rw [toldK_zero], by rw [toldK_zero], J (Below.refl _ _)⟩
 obtain ⟨k, hk, rfl, rfl, rfl, HB⟩ := hrel
 obtain ⟨P, B, hPB⟩ : ∃ P B, toldK L sec have0 (rs.map RdV.rd) busy k = (P, B) := ⟨_, _, rfl⟩
 have HPB := J hPB
 rw [hPB]
 clear hPB
 by_cases hlt : k < rs.length
 ·obtain ⟨r, hr⟩ := G.get_some rs hlt
  obtain ⟨t, ht⟩ := G.get_some L.p.trigs (show k < L.p.trigs.length by rw [← HM0.u]; have := HN.u; omega)
  obtain ⟨f, hf⟩ := G.get_some L.fails (show k < L.fails.length by have := HFs.u; omega)
  have hrd := HK2.u.rds.below HB.u
  obtain ⟨_, b, off, rfl, d0, d1⟩ := hrd.at hr
  have hfi : t.fits := HFit.u t (by rw [HM0.u]; exact List.mem_of_getElem? ht)
  have hT := allT_snoc (p := L.p) (sec := sec) (have0 := have0) (x := (0, busy)) ht (show (rs.map RdV.rd)[k]? = some r.rd by rw [List.getElem?_map, hr]; rfl) hf
  have hT2 : toldK L sec have0 (rs.map RdV.rd) busy (k + 1) = (max (toldK L sec have0 (rs.map RdV.rd) busy k).1 (oneT L.p t f r.rd sec have0).1, (toldK L sec have0 (rs.map RdV.rd) busy k).2 || (oneT L.p t f r.rd sec have0).2) := hT
  rw [HPB.u] at hT2
  have HT := J hT2
  obtain ⟨kind, target, act, ⟨ai, ah, ad, am, aw, aa, ab⟩, ⟨bi, bh, bd, bm, bw, ba, bb⟩⟩ := t
  have HO := J (fun (W : World) (hb : Below wo.heap.size wo W) => lopOne g gs 219 S1 _ _ L k kind target act ai ah ad am aw bi bh bd bm bw aa ab ba bb hfi.1 hfi.2 f sec have0 r.failed r.A r.cap r.xs W
   (HK2.u.below hb).lop.head (HK2.u.below hb).lop.trg (HK2.u.below hb).lop.fls ht hf (by rw [← HM0.u]; omega) ((HK2.u.below hb).rds.nums r (List.mem_of_getElem? hr)).in ((HK2.u.below hb).rds.few r (List.mem_of_getElem? hr)))
  have HBx := J (HB.u.alloc HB.u.size (.cells #[.bool r.failed, .slice r.A r.xs.length r.cap] 264))
  have HX := J (G.At.made wr 264 #[.bool r.failed, .slice r.A r.xs.length r.cap])
  have xb := (HK2.u.below HB.u).box.here (i := 0) rfl
  have HXb := J ((HK2.u.below HBx.u).box.here (i := 0) rfl)
  have k0 : (0 : Int) ≤ (k : Int) := by omega
  have k1 : (k : Int) < (rs.length : Int) := by omega
  obtain ⟨N, C, hNC⟩ : ∃ N C, oneT L.p ⟨kind, target, act, ⟨ai, ah, ad, am, aw, aa, ab⟩, ⟨bi, bh, bd, bm, bw, ba, bb⟩⟩ f r.rd sec have0 = (N, C) := ⟨_, _, rfl⟩
  have hNC' : oneT L.p ⟨kind, target, act, ⟨ai, ah, ad, am, aw, aa, ab⟩, ⟨bi, bh, bd, bm, bw, ba, bb⟩⟩ f ⟨r.failed, r.xs⟩ sec have0 = (N, C) := hNC
  rw [hNC] at HT
  rw [hNC'] at HO
  clear hNC hNC' hr ht hf hrd hfi hT hT2 HB
  go_upto_region 17 with fail
  clear d0 d1 xb
  have xb := HXb.u
  have y0 := HX.u.here (i := 0) rfl
  have y1 := HX.u.here (i := 1) rfl
  have HOx := J (HO.u _ HBx.u)
  generalize wr.alloc (.cells #[.bool r.failed, .slice r.A r.xs.length r.cap] 264) = W1 at HBx HX HXb xb y0 y1 HOx ⊢
  clear HO
  go_wp2_with fail
  refine HOx.u.mono ?_
  rintro e w3 ⟨rfl, hb3⟩
  have HB3 := J (HBx.u.trans (hb3.mono HBx.u.size))
  clear hb3 HOx xb y0 y1 HX HXb HBx
  have HTP := J (fun (x : Int) (y : Bool) (hx : max P N = x) (hy : (B || C) = y) => (show toldK L sec have0 (rs.map RdV.rd) busy (k + 1) = (x, y) by rw [HT.u, hx, hy]))
  clear HT
  cases B <;> cases C <;> by_cases hPN : P < N
  all_goals
   go_wp2_with fail
   go_roundw
   case rel => exact ⟨k + 1, by omega, by go_num, by rw [HTP.u _ _ rfl rfl]; simp only []; congr 1; omega, by rw [HTP.u _ _ rfl rfl] <;> rfl, HB3⟩
   case measure => simp [intOf]; omega
 have hke : k = rs.length := by omega
 subst hke
 have hP := HPB.u
 rw [toldK_all (n := rs.length) (by rw [← HM0.u]; exact HN.u.symm) (by rw [List.length_map]) HFs.u] at hP
 have HTold := J hP
 have HK3 := J (HK2.u.below HB.u)
 clear hP HPB HB HK2
 obtain ⟨M, hM⟩ : ∃ M, L.marked now B = M := ⟨_, rfl⟩
 have HMp := J (show M.p = l.p by rw [← hM, HM0.u]; cases B <;> rfl)
 have HMt := J (show M.s = l.s by rw [← hM, HMs.u]; cases B <;> rfl)
 have HMd := J hM
 clear hM
 have xb := HK3.u.box.here (i := 0) rfl
 go_upto_if 141 with fail
 go_cut [] (fun wx => Hid (Lk S1 S2 R w wx g gs (.slice At l.p.trigs.length capt) (.slice Af l.fails.length capf) vw vm M (.slice A rs.length cap) rs))
 case first =>
  have x22 := HK3.u.lop.head.here (i := 22) rfl
  have p22 := HK3.u.lop.head.soft 22
  cases B
  ·have HE := J (show L = M from HMd.u)
   go_wp2_with fail
   go_meet
   rw [← HE.u]; exact HK3
  have HE := J (show { L with needed := now } = M from HMd.u)
  go_wp2_with fail
  go_meet
  exact J (HE.u ▸ HK3.u.put (l' := { L with needed := now }) (i := 22) (u := .int .i64 now) rfl rfl rfl rfl)
 have HK4 := hcut
 clear hcut HK3 xb
 have xb := HK4.u.box.here (i := 0) rfl
 have HCool := J (show 0 ≤ M.p.cool ∧ M.p.cool ≤ 1000000 by rw [HMp.u]; have := HPl.u.cool; omega)
 have HMx := J (show (0 ≤ M.p.mx ∧ M.p.mx ≤ 50) ∧ 0 ≤ M.p.mn by rw [HMp.u]; have := HPl.u.mx; have := HPl.u.mn; omega)
 have hn0 : 0 ≤ now := by omega
 go_wp2_with fail
 refine (lopLow g M 219 gs _ _ now have0 B _ HK4.u.lop.head hn0 b1 HCool.u.1 HCool.u.2).mono ?_
 rintro e w3 ⟨rfl, hb3⟩
 have hLO0 := lowOf_nonneg HMx.u.2 M.needed now have0 B
 obtain ⟨LO, hLO⟩ : ∃ LO, lowOf M.p M.needed now have0 B = LO := ⟨_, rfl⟩
 rw [hLO] at hLO0 ⊢
 have HLO := J hLO
 have HK5 := J (HK4.u.below hb3)
 clear hLO hb3 xb HK4
 have xb := HK5.u.box.here (i := 0) rfl
 have HK6 := J (HK5.u.alloc (.cells #[.int .i64 LO] 3))
 have HLb := J (G.At.made w3 3 #[.int .i64 LO])
 have HBL := J (show w.heap.size ≤ w3.heap.size from HK5.u.chg.size)
 obtain ⟨x, hx⟩ : ∃ x, clipOf LO M.p.mx P = x := ⟨_, rfl⟩
 have hxb := clipOf_bd (n := P) hLO0 HMx.u.1.1 HMx.u.1.2
 rw [hx] at hxb
 have HX := J hx
 have HSok := J (show M.s.ok j by rw [HMt.u]; exact HS0.u)
 have HSE := J (show G.settleE M.s now have0 x = 0 by
  unfold G.settleE G.settleOk
  have := HSl.u
  rw [HMt.u, decide_eq_true (show l.s.last ≤ now by omega), decide_eq_true b1, decide_eq_true b4, decide_eq_true b5, decide_eq_true hxb.1, decide_eq_true hxb.2]; rfl)
 clear hx
 go_upto_region 24 with fail
 generalize w3.alloc (.cells #[.int .i64 LO] 3) = W4 at HK6 HLb ⊢
 generalize w3.heap.size = bl at HLb HBL ⊢
 clear xb HK5
 have xb := HK6.u.box.here (i := 0) rfl
 have xl := HLb.u.here (i := 0) rfl
 have x18 := HK6.u.lop.head.here (i := 18) rfl
 have x2 := HK6.u.lop.head.here (i := 2) rfl
 as_aux_lemma =>
 go_region_held3 (fun w' => w'.cell? ⟨w.heap.size, 0, none⟩ = some (.pointer (some ⟨g, 0, none⟩)) ∧ w'.cell? ⟨bl, 0, none⟩ = some (.int .i64 LO) ∧ w'.cell? ⟨g, 18, none⟩ = some (.pointer (some ⟨gs, 0, none⟩)) ∧ w'.cell? ⟨g, 2, none⟩ = some (.int .i64 M.p.mx)) (first | exact ⟨xb, xl, x18, x2⟩ | exact ⟨zb, zl, z18, z2⟩ | exact ⟨yb, yl, y18, y2⟩ | go_keep) (first | (go_at_call 182; refine (lopClip P LO M.p.mx bl w.heap.size g W4.drew xl xb x2).mono ?_; rintro e w5 ⟨rfl, hb5⟩; rw [HX.u]; have HK7 := J (HK6.u.drew.below hb5); have HLb7 := J (G.At.below HLb.u.drew hb5 HLb.u.drew.inside); clear hb5; have yb := HK7.u.box.here (i := 0) rfl; have yl := HLb7.u.here (i := 0) rfl; have y18 := HK7.u.lop.head.here (i := 18) rfl; have y2 := HK7.u.lop.head.here (i := 2) rfl) | (go_at_call 183; refine (stbSettle S2 gs M.s vw vm now have0 x w5 j HK7.u.lop.st HSok.u hj).mono ?_; rintro e w6 ⟨rfl, ⟨vw6, vm6, h6⟩, c6⟩; rw [HSE.u]; have HS6 := J h6; have HC6 := J c6; clear h6 c6; have zb := (HK7.u.box.chg HC6.u (fun h => Nat.lt_irrefl _ (HK7.u.two _ h))).here (i := 0) rfl; have zl := (HLb7.u.chg HC6.u (fun h => by have := HK7.u.two _ h; have := HBL.u; omega)).here (i := 0) rfl; have zh := HK7.u.lop.head.chg HC6.u (HK7.u.lop.dis g HK7.u.lop.own); have z18 := zh.here (i := 18) rfl; have z2 := zh.here (i := 2) rfl; clear zh))
 all_goals
  have HZ := J (lopClip (G.settleN M.s now have0 x) LO M.p.mx bl w.heap.size g w6 zl zb z2)
  clear xb xl x18 x2 yb yl y18 y2 zb zl z18 z2
  go_wp2_with fail
  refine HZ.u.mono ?_
  rintro e w7 ⟨rfl, hb7⟩
  have HDn := J (HD.u M x (clipOf LO M.p.mx (G.settleN M.s now have0 x)) w5 w6 w7 vw6 vm6 (by rw [HDL.u, HTold.u]; exact HMd.u)
   (by rw [HDL.u]; unfold Lp.wish; rw [HTold.u]; show clipOf (lowOf L.p (L.marked now B).needed now have0 B) L.p.mx P = x; rw [HMd.u, ← HM0.u, ← HMp.u, HLO.u]; exact HX.u)
   (by rw [HDL.u, HTold.u]; show clipOf (lowOf M.p M.needed now have0 B) _ _ = _; rw [HLO.u]) HK7.u.lop HK7.u.chg HK7.u.one HS6.u HC6.u hb7)
  clear hb7 HZ
  go_wp2_with fail
  go_ret2
  exact HDn.u
theorem lopLook (S1 S2 R : Nat → Prop) (g gs : Nat) (vt vf vw vm v : Value) (l : Lp) (now sec have0 : Int) (rs : List RdV) (busy : Bool) (j : Nat) (w : World) (h : LopAt 219 257 290 S1 S2 w g gs vt vf vw vm l) (hr : RdsIn R w v rs)
  (hRS : ∀ b, R b → ¬ S1 b ∧ ¬ S2 b) (hl : l.ok j) (hj : j ≤ 290000) (hrl : rs.length ≤ 9223372036854775807) :
  Calls Tryz.prog 163 #[.pointer (some ⟨g, 0, none⟩), .int .i64 now, .int .i64 sec, .int .i64 have0, v, .bool busy] w (LookPost 219 257 290 S1 S2 w g gs vt vf l now sec have0 (rs.map RdV.rd) busy) := by
 cases hok : lookOk l now sec have0 rs.length
 ·exact lopLookNo S1 S2 R g gs vt vf vw vm v l now sec have0 rs busy w h hr hrl (planE_ok hl.plan).few hok
 exact lopLookYes S1 S2 R g gs vt vf vw vm v l now sec have0 rs busy j w h hr hRS hl hj hok
end Go.Proofs.YtoidcbpcnikejaaGreatDoor
