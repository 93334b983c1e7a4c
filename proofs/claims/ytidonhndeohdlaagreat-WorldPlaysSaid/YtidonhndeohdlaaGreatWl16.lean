/- Parts of this claim: RspC, NeqP, OpenCron, OpenSpan. -/
import Derived.Test.YtidonhndeohdlaaGreatWl15
set_option linter.unusedVariables false
set_option linter.unusedSimpArgs false
set_option maxRecDepth 100000
set_option maxHeartbeats 12800000
namespace Go.Proofs.YtidonhndeohdlaaGreat
open Go.RowKit
theorem refSpanS (ai ah ad am aw bi bh bd bm bw : Nat) (aa ab ba bb : Bool) (ha : Cr.fits ⟨ai, ah, ad, am, aw, aa, ab⟩) (hb : Cr.fits ⟨bi, bh, bd, bm, bw, ba, bb⟩) (w : World) : Calls Tryz.prog 16 #[.agg #[.int .u64 (ai : Int), .int .u64 (ah : Int), .int .u64 (ad : Int), .int .u64 (am : Int), .int .u64 (aw : Int), .bool aa, .bool ab, .int .u64 (bi : Int), .int .u64 (bh : Int), .int .u64 (bd : Int), .int .u64 (bm : Int), .int .u64 (bw : Int), .bool ba, .bool bb]] w fun e w' => e = .returned (.int .i64 (spanE ⟨ai, ah, ad, am, aw, aa, ab⟩ ⟨bi, bh, bd, bm, bw, ba, bb⟩)) ∧ Below w.heap.size w w' := by
 have HCa := J ha; have HCb := J hb
 have HB := J ((Below.refl w.heap.size w).alloc (Nat.le_refl _) (.cells #[.int .u64 (ai : Int), .int .u64 (ah : Int), .int .u64 (ad : Int), .int .u64 (am : Int), .int .u64 (aw : Int), .bool aa, .bool ab, .int .u64 (bi : Int), .int .u64 (bh : Int), .int .u64 (bd : Int), .int .u64 (bm : Int), .int .u64 (bw : Int), .bool ba, .bool bb] 61))
 have HX := J (G.At.made w 61 #[.int .u64 (ai : Int), .int .u64 (ah : Int), .int .u64 (ad : Int), .int .u64 (am : Int), .int .u64 (aw : Int), .bool aa, .bool ab, .int .u64 (bi : Int), .int .u64 (bh : Int), .int .u64 (bd : Int), .int .u64 (bm : Int), .int .u64 (bw : Int), .bool ba, .bool bb])
 clear ha hb
 have he : (Cr.err ⟨ai, ah, ad, am, aw, aa, ab⟩ = 0 ∧ spanE ⟨ai, ah, ad, am, aw, aa, ab⟩ ⟨bi, bh, bd, bm, bw, ba, bb⟩ = Cr.err ⟨bi, bh, bd, bm, bw, ba, bb⟩) ∨ (Cr.err ⟨ai, ah, ad, am, aw, aa, ab⟩ = 1 ∧ spanE ⟨ai, ah, ad, am, aw, aa, ab⟩ ⟨bi, bh, bd, bm, bw, ba, bb⟩ = 1) := by
  unfold spanE
  cases hok : Cr.ok ⟨ai, ah, ad, am, aw, aa, ab⟩
  ·right; exact ⟨Cr.err_no hok, rfl⟩
  left; exact ⟨Cr.err_yes hok, rfl⟩
 obtain ⟨R, hR⟩ : ∃ R, spanE ⟨ai, ah, ad, am, aw, aa, ab⟩ ⟨bi, bh, bd, bm, bw, ba, bb⟩ = R := ⟨_, rfl⟩
 rw [hR] at he ⊢
 have HE := J he
 clear he hR
 have z0 := HX.u.here (i := 0) rfl; have z1 := HX.u.here (i := 1) rfl; have z2 := HX.u.here (i := 2) rfl; have z3 := HX.u.here (i := 3) rfl; have z4 := HX.u.here (i := 4) rfl; have z5 := HX.u.here (i := 5) rfl; have z6 := HX.u.here (i := 6) rfl; have z7 := HX.u.here (i := 7) rfl; have z8 := HX.u.here (i := 8) rfl; have z9 := HX.u.here (i := 9) rfl; have z10 := HX.u.here (i := 10) rfl; have z11 := HX.u.here (i := 11) rfl; have z12 := HX.u.here (i := 12) rfl; have z13 := HX.u.here (i := 13) rfl
 go_enter Tryz.func16, Tryz.ntmps16
 go_wp2_with fail
 refine (refCron ⟨ai, ah, ad, am, aw, aa, ab⟩ HCa.u _).mono ?_
 rintro e w1 ⟨rfl, hb1⟩
 have HB1 := J (HB.u.trans (hb1.mono HB.u.size))
 have HX1 := J (HX.u.below hb1 HX.u.inside)
 clear hb1 z0 z1 z2 z3 z4 z5 z6 z7 z8 z9 z10 z11 z12 z13
 rcases HE.u with ⟨h1, h2⟩ | ⟨h1, h2⟩
 ·rw [h1]
  subst h2
  clear h1
  have y0 := HX1.u.here (i := 7) rfl; have y1 := HX1.u.here (i := 8) rfl; have y2 := HX1.u.here (i := 9) rfl; have y3 := HX1.u.here (i := 10) rfl; have y4 := HX1.u.here (i := 11) rfl; have y5 := HX1.u.here (i := 12) rfl; have y6 := HX1.u.here (i := 13) rfl
  go_wp2_with fail
  refine (refCron ⟨bi, bh, bd, bm, bw, ba, bb⟩ HCb.u _).mono ?_
  rintro e w2 ⟨rfl, hb2⟩
  have HF := J (HB1.u.trans (hb2.mono HB1.u.size))
  clear hb2 y0 y1 y2 y3 y4 y5 y6
  go_wp2_with fail
  go_ret
  exact ⟨rfl, HF.u⟩
 rw [h1]
 subst h2
 clear h1
 go_wp2_with fail
 go_ret
 exact ⟨rfl, HB1.u⟩
open Go.RowKit
theorem neq_law {P : Program} {ops : Array Oper} {rest : List Oper} {o : Oper} {a : Act} {w : World} {Q : Exit → Act → World → Prop} (hw : Region.wanted o (yielded ops a.tmps) = true) (t rt : TypeId) (x y : Operand) (ho : o.op = .binOp .neq t x y rt) (vx vy : Value) (hx : a.eval x = vx) (hy : a.eval y = vy) (b : Bool)
  (hv : ∀ W : World, (do eqGuard .neq t x y vx vy; Go.binOp .neq t vx vy : Sem Value).run P W = Result.ok (.bool b) W) (k : wpList P ops Q rest (a.put o.dst (.bool b)) w) : wpList P ops Q (o :: rest) a w :=
 wpList_step fun K hK => by
  rw [if_pos hw]
  subst hx hy
  have h2 := hv w
  unfold Oper.wp execOp
  simp only [ho]
  simp only [Sem.run_bind, Sem.run_pure] at h2 ⊢
  rw [h2]
  simp only [Result.andThen_ok]
  exact hK _ _ k
def zeroB (c : Cr) : Bool := c.mi == 0 && c.h == 0 && c.d == 0 && c.mo == 0 && c.wk == 0 && !c.ad && !c.aw
theorem span_neq (ai ah ad am aw bi bh bd bm bw : Nat) (aa ab ba bb : Bool) (x y : Operand) (W : World) : (do eqGuard .neq 61 x y (.agg #[.int .u64 (ai : Int), .int .u64 (ah : Int), .int .u64 (ad : Int), .int .u64 (am : Int), .int .u64 (aw : Int), .bool aa, .bool ab, .int .u64 (bi : Int), .int .u64 (bh : Int), .int .u64 (bd : Int), .int .u64 (bm : Int), .int .u64 (bw : Int), .bool ba, .bool bb]) (.agg #[.int .u64 0, .int .u64 0, .int .u64 0, .int .u64 0, .int .u64 0, .bool false, .bool false, .int .u64 0, .int .u64 0, .int .u64 0, .int .u64 0, .int .u64 0, .bool false, .bool false]); Go.binOp .neq 61 (.agg #[.int .u64 (ai : Int), .int .u64 (ah : Int), .int .u64 (ad : Int), .int .u64 (am : Int), .int .u64 (aw : Int), .bool aa, .bool ab, .int .u64 (bi : Int), .int .u64 (bh : Int), .int .u64 (bd : Int), .int .u64 (bm : Int), .int .u64 (bw : Int), .bool ba, .bool bb]) (.agg #[.int .u64 0, .int .u64 0, .int .u64 0, .int .u64 0, .int .u64 0, .bool false, .bool false, .int .u64 0, .int .u64 0, .int .u64 0, .int .u64 0, .int .u64 0, .bool false, .bool false]) : Sem Value).run Tryz.prog W = Result.ok (.bool (!(zeroB ⟨ai, ah, ad, am, aw, aa, ab⟩ && zeroB ⟨bi, bh, bd, bm, bw, ba, bb⟩))) W := by
 go_simp
 unfold zeroB
 by_cases h_ai : ai = 0
 case neg => simp [h_ai]
 by_cases h_ah : ah = 0
 case neg => simp [h_ai, h_ah]
 by_cases h_ad : ad = 0
 case neg => simp [h_ai, h_ah, h_ad]
 by_cases h_am : am = 0
 case neg => simp [h_ai, h_ah, h_ad, h_am]
 by_cases h_aw : aw = 0
 case neg => simp [h_ai, h_ah, h_ad, h_am, h_aw]
 by_cases h_aa : aa = true
 case pos => simp [h_ai, h_ah, h_ad, h_am, h_aw, h_aa]
 by_cases h_ab : ab = true
 case pos => simp [h_ai, h_ah, h_ad, h_am, h_aw, h_aa, h_ab]
 by_cases h_bi : bi = 0
 case neg => simp [h_ai, h_ah, h_ad, h_am, h_aw, h_aa, h_ab, h_bi]
 by_cases h_bh : bh = 0
 case neg => simp [h_ai, h_ah, h_ad, h_am, h_aw, h_aa, h_ab, h_bi, h_bh]
 by_cases h_bd : bd = 0
 case neg => simp [h_ai, h_ah, h_ad, h_am, h_aw, h_aa, h_ab, h_bi, h_bh, h_bd]
 by_cases h_bm : bm = 0
 case neg => simp [h_ai, h_ah, h_ad, h_am, h_aw, h_aa, h_ab, h_bi, h_bh, h_bd, h_bm]
 by_cases h_bw : bw = 0
 case neg => simp [h_ai, h_ah, h_ad, h_am, h_aw, h_aa, h_ab, h_bi, h_bh, h_bd, h_bm, h_bw]
 by_cases h_ba : ba = true
 case pos => simp [h_ai, h_ah, h_ad, h_am, h_aw, h_aa, h_ab, h_bi, h_bh, h_bd, h_bm, h_bw, h_ba]
 by_cases h_bb : bb = true
 case pos => simp [h_ai, h_ah, h_ad, h_am, h_aw, h_aa, h_ab, h_bi, h_bh, h_bd, h_bm, h_bw, h_ba, h_bb]
 simp [h_ai, h_ah, h_ad, h_am, h_aw, h_aa, h_ab, h_bi, h_bh, h_bd, h_bm, h_bw, h_ba, h_bb]
open Go.ChangeShapes Go.WideShapes Go.ChangeAt Go.RowKit
theorem cells_u64 : Tryz.prog.cellsOf 57 = 1 := by kernel_rfl
theorem cells_bool : Tryz.prog.cellsOf 4 = 1 := by kernel_rfl
theorem cells_cron : Tryz.prog.cellsOf 59 = 7 := by kernel_rfl
theorem u64_wf {k : Int} (h : (Lit.int .u64 k).wf = true) : ∃ n : Nat, k = (n : Int) ∧ n < 18446744073709551616 := by
 have h1 := bounds_u64 h
 exact ⟨k.toNat, by omega, by omega⟩
section
variable {H : Type} {enc : TypeId × Value → H} {w : World} {base : Nat} {spare : Nat → Bool} {held : Bool}
end
open Go.ChangeShapes Go.WideShapes Go.ChangeAt Go.RowKit
theorem cells_span : Tryz.prog.cellsOf 61 = 14 := by kernel_rfl
section
variable {H : Type} {enc : TypeId × Value → H} {w : World} {base : Nat} {spare : Nat → Bool} {held : Bool}
theorem cron_list {fuel : Nat} {x : DataW H × List MemPlace} {c0 c1 c2 c3 c4 c5 c6 : Value} (hf : DataW.trod enc Tryz.prog w base spare held fuel 59 [c0, c1, c2, c3, c4, c5, c6] = some x) :
  ∃ (a b c d e : Nat) (f g : Bool), c0 = .int .u64 (a : Int) ∧ c1 = .int .u64 (b : Int) ∧ c2 = .int .u64 (c : Int) ∧ c3 = .int .u64 (d : Int) ∧ c4 = .int .u64 (e : Int) ∧ c5 = .bool f ∧ c6 = .bool g ∧ Cr.fits ⟨a, b, c, d, e, f, g⟩ := by
 obtain ⟨xs, n, _, hx, _, hlen, hg⟩ := DataW.trod_struct Tryz.underlying59 hf
 have one : ∀ (i : Nat) (c : Value), i < 7 → (DataW.trod enc Tryz.prog w base spare held n 57 [c] = xs[i]?) → ∃ k : Nat, c = .int .u64 (k : Int) ∧ k < 18446744073709551616 := by
  intro i c hi ht
  have hs : xs[i]? = some (xs[i]'(by rw [hlen]; exact hi)) := List.getElem?_eq_getElem _
  obtain ⟨k, hc, _, wf⟩ := DataW.trod_int Tryz.underlying57 (ht.trans hs)
  obtain ⟨m, rfl, hm⟩ := u64_wf wf
  exact ⟨m, by simpa using hc, hm⟩
 have oneb : ∀ (i : Nat) (c : Value), i < 7 → (DataW.trod enc Tryz.prog w base spare held n 4 [c] = xs[i]?) → ∃ k : Bool, c = .bool k := by
  intro i c hi ht
  have hs : xs[i]? = some (xs[i]'(by rw [hlen]; exact hi)) := List.getElem?_eq_getElem _
  obtain ⟨k, hc, _⟩ := DataW.trod_bool Tryz.underlying4 (ht.trans hs)
  exact ⟨k, by simpa using hc⟩
 obtain ⟨k0, h0', h0⟩ := one 0 c0 (by omega) (by simpa [cells_u64] using hg 0 _ rfl)
 obtain ⟨k1, h1', h1⟩ := one 1 c1 (by omega) (by simpa [cells_u64] using hg 1 _ rfl)
 obtain ⟨k2, h2', h2⟩ := one 2 c2 (by omega) (by simpa [cells_u64] using hg 2 _ rfl)
 obtain ⟨k3, h3', h3⟩ := one 3 c3 (by omega) (by simpa [cells_u64] using hg 3 _ rfl)
 obtain ⟨k4, h4', h4⟩ := one 4 c4 (by omega) (by simpa [cells_u64] using hg 4 _ rfl)
 obtain ⟨k5, h5'⟩ := oneb 5 c5 (by omega) (by simpa [cells_bool] using hg 5 _ rfl)
 obtain ⟨k6, h6'⟩ := oneb 6 c6 (by omega) (by simpa [cells_bool] using hg 6 _ rfl)
 exact ⟨k0, k1, k2, k3, k4, k5, k6, h0', h1', h2', h3', h4', h5', h6', ⟨h0, h1, h2, h3, h4⟩⟩
end
end Go.Proofs.YtidonhndeohdlaaGreat
