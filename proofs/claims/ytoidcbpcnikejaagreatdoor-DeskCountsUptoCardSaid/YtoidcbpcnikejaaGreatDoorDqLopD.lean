/- The contract of (*loop.Loop).one: what one trigger wants. -/
import Derived.Test.YtoidcbpcnikejaaGreatDoorDq27
set_option linter.unusedVariables false
set_option linter.unusedSimpArgs false
set_option maxRecDepth 100000
set_option maxHeartbeats 12800000
namespace Go.Proofs.YtoidcbpcnikejaaGreatDoor
open Go.RowKit
theorem trig_row {S : Nat → Prop} {w : World} {v : Value} {ts : List Trg} (h : G.OwnRow S w 171 17 v ts.length (ts.flatMap Trg.enc)) {k : Nat} {t : Trg} (hk : ts[k]? = some t) :
  ∃ b cap, v = .slice (some ⟨b, 0, none⟩) ts.length cap ∧ b < w.heap.size ∧ ∀ j u, (Trg.enc t)[j]? = some u → w.cell? ⟨b, k * 17 + j, none⟩ = some u := by
 obtain ⟨b, cap, e, _, _, _, hr⟩ := h.form (by have := G.get_lt hk; omega)
 exact ⟨b, cap, e, hr.inside, fun j u hj => hr.cell (G.flat_get Trg.enc_length hk hj)⟩
theorem int_row {S : Nat → Prop} {w : World} {v : Value} {xs : List Int} (h : G.OwnRow S w 3 1 v xs.length (xs.map (Value.int .i64))) {k : Nat} {x : Int} (hk : xs[k]? = some x) :
  ∃ b cap, v = .slice (some ⟨b, 0, none⟩) xs.length cap ∧ b < w.heap.size ∧ w.cell? ⟨b, k, none⟩ = some (.int .i64 x) := by
 obtain ⟨b, cap, e, _, _, _, hr⟩ := h.form (by have := G.get_lt hk; omega)
 exact ⟨b, cap, e, hr.inside, hr.cell (by rw [List.getElem?_map, hk]; rfl)⟩
structure OneMid (w wx : World) (g gt q : Nat) (T : TypeId) (hcs tcs rcs : Array Value) (v0 : Int) (v1 : Bool) (A : Option Addr) (xs : List Int) : Prop where
 need : G.At wx q 285 #[.int .i64 v0, .bool v1]
 trg : G.At wx gt 171 tcs
 rd : G.At wx w.heap.size 264 rcs
 head : G.At wx g T hcs
 nums : NumsIn wx A xs
 below : Below w.heap.size w wx
theorem lopOne (g gs : Nat) (T : TypeId) (S1 : Nat → Prop) (vt vf : Value) (l : Lp) (k : Nat) (kind target act : Int) (ai ah ad am aw bi bh bd bm bw : Nat) (aa ab ba bb : Bool) (ha : Cr.fits ⟨ai, ah, ad, am, aw, aa, ab⟩) (hb : Cr.fits ⟨bi, bh, bd, bm, bw, ba, bb⟩) (f : Int) (sec have0 : Int) (failed : Bool) (A : Option Addr) (cap : Nat) (xs : List Int) (w : World)
  (h : G.At w g T #[.string l.p.name, .int .i64 l.p.mn, .int .i64 l.p.mx, .int .i64 l.p.poll, .int .i64 l.p.cool, .int .i64 l.p.tol, .int .i64 l.p.back, .int .i64 l.p.after, .int .i64 l.p.shift, .int .i64 l.p.up.win, .int .i64 l.p.up.pods, .int .i64 l.p.up.pct, .int .i64 l.p.up.per, .int .i64 l.p.down.win, .int .i64 l.p.down.pods, .int .i64 l.p.down.pct, .int .i64 l.p.down.per, vt, .pointer (some ⟨gs, 0, none⟩), vf, .bool l.looked, .int .i64 l.last, .int .i64 l.needed, .int .i64 l.pause]) (htr : G.OwnRow S1 w 171 17 vt l.p.trigs.length (l.p.trigs.flatMap Trg.enc)) (hfl : G.OwnRow S1 w 3 1 vf l.fails.length (l.fails.map (Value.int .i64)))
  (hk : l.p.trigs[k]? = some ⟨kind, target, act, ⟨ai, ah, ad, am, aw, aa, ab⟩, ⟨bi, bh, bd, bm, bw, ba, bb⟩⟩) (hf : l.fails[k]? = some f) (hn : l.p.trigs.length ≤ 5) (hx : NumsIn w A xs) (hl : xs.length ≤ 9223372036854775807) :
  Calls Tryz.prog 180 #[.pointer (some ⟨g, 0, none⟩), .int .i64 (k : Int), .int .i64 sec, .int .i64 have0, .agg #[.bool failed, .slice A xs.length cap]] w fun e w' => e = .returned (.tuple #[.int .i64 (oneT l.p ⟨kind, target, act, ⟨ai, ah, ad, am, aw, aa, ab⟩, ⟨bi, bh, bd, bm, bw, ba, bb⟩⟩ f ⟨failed, xs⟩ sec have0).1, .bool (oneT l.p ⟨kind, target, act, ⟨ai, ah, ad, am, aw, aa, ab⟩, ⟨bi, bh, bd, bm, bw, ba, bb⟩⟩ f ⟨failed, xs⟩ sec have0).2]) ∧ Below w.heap.size w w' := by
 obtain ⟨b, cb, rfl, hbl, hc⟩ := trig_row htr hk
 obtain ⟨bf, cf, rfl, hfb, c0f⟩ := int_row hfl hf
 have hkl := G.get_lt hk
 have hkf := G.get_lt hf
 have HB := J ((Below.refl w.heap.size w).alloc (Nat.le_refl _) (.cells #[.bool failed, .slice A xs.length cap] 264))
 have HR := J (G.At.made w 264 #[.bool failed, .slice A xs.length cap])
 have HH := J (h.alloc (.cells #[.bool failed, .slice A xs.length cap] 264))
 have HN := J (hx.below HB.u (Nat.le_refl _))
 have HO := J (fun (W : World) (hW : NumsIn W A xs) => needOf ai ah ad am aw bi bh bd bm bw aa ab ba bb ha hb kind target act sec l.p.shift failed A cap xs W hW hl)
 have HW := J (fun (W : World) (hW : NumsIn W A xs) => needWant ai ah ad am aw bi bh bd bm bw aa ab ba bb ha hb have0 l.p.tol kind target act failed A cap xs W hW hl)
 have HC := J (fun j u (hj : (Trg.enc ⟨kind, target, act, ⟨ai, ah, ad, am, aw, aa, ab⟩, ⟨bi, bh, bd, bm, bw, ba, bb⟩⟩)[j]? = some u) => (HB.u.cell (p := ⟨b, k * 17 + j, none⟩) hbl).trans (hc j u hj))
 have HCF := J ((HB.u.cell (p := ⟨bf, k, none⟩) hfb).trans c0f)
 have HBL := J (show b < (w.alloc (.cells #[.bool failed, .slice A xs.length cap] 264)).heap.size by simp; omega)
 have HBF := J (show bf < (w.alloc (.cells #[.bool failed, .slice A xs.length cap] 264)).heap.size by simp; omega)
 obtain ⟨R, hR⟩ : ∃ R, oneT l.p ⟨kind, target, act, ⟨ai, ah, ad, am, aw, aa, ab⟩, ⟨bi, bh, bd, bm, bw, ba, bb⟩⟩ f ⟨failed, xs⟩ sec have0 = R := ⟨_, rfl⟩
 rw [hR]
 have HV := J hR
 have k0 : (0 : Int) ≤ (k : Int) := by omega
 have k1 : (k : Int) < (l.p.trigs.length : Int) := by omega
 have k2 : (k : Int) < (l.fails.length : Int) := by omega
 have k3 : (l.p.trigs.length : Int) ≤ 5 := by omega
 clear h htr hfl hk hf hn hx hl hc c0f hR ha hb hkl hkf hbl hfb
 go_enter Tryz.func180, Tryz.ntmps180
 go_upto_region 1 with fail
 generalize w.alloc (.cells #[.bool failed, .slice A xs.length cap] 264) = W at HB HR HH HN HC HCF HBL HBF ⊢
 have x7 := HH.u.here (i := 7) rfl
 have x17 := HH.u.here (i := 17) rfl
 have x19 := HH.u.here (i := 19) rfl
 have c0 : W.cell? ⟨b, k * 17, none⟩ = some (.int .i64 kind) := HC.u 0 _ rfl; have c1 : W.cell? ⟨b, k * 17 + 1, none⟩ = some (.int .i64 target) := HC.u 1 _ rfl; have c2 : W.cell? ⟨b, k * 17 + 2, none⟩ = some (.int .i64 act) := HC.u 2 _ rfl; have c3 : W.cell? ⟨b, k * 17 + 3, none⟩ = some (.int .u64 (ai : Int)) := HC.u 3 _ rfl; have c4 : W.cell? ⟨b, k * 17 + 4, none⟩ = some (.int .u64 (ah : Int)) := HC.u 4 _ rfl; have c5 : W.cell? ⟨b, k * 17 + 5, none⟩ = some (.int .u64 (ad : Int)) := HC.u 5 _ rfl; have c6 : W.cell? ⟨b, k * 17 + 6, none⟩ = some (.int .u64 (am : Int)) := HC.u 6 _ rfl; have c7 : W.cell? ⟨b, k * 17 + 7, none⟩ = some (.int .u64 (aw : Int)) := HC.u 7 _ rfl; have c8 : W.cell? ⟨b, k * 17 + 8, none⟩ = some (.bool aa) := HC.u 8 _ rfl; have c9 : W.cell? ⟨b, k * 17 + 9, none⟩ = some (.bool ab) := HC.u 9 _ rfl; have c10 : W.cell? ⟨b, k * 17 + 10, none⟩ = some (.int .u64 (bi : Int)) := HC.u 10 _ rfl; have c11 : W.cell? ⟨b, k * 17 + 11, none⟩ = some (.int .u64 (bh : Int)) := HC.u 11 _ rfl; have c12 : W.cell? ⟨b, k * 17 + 12, none⟩ = some (.int .u64 (bd : Int)) := HC.u 12 _ rfl; have c13 : W.cell? ⟨b, k * 17 + 13, none⟩ = some (.int .u64 (bm : Int)) := HC.u 13 _ rfl; have c14 : W.cell? ⟨b, k * 17 + 14, none⟩ = some (.int .u64 (bw : Int)) := HC.u 14 _ rfl; have c15 : W.cell? ⟨b, k * 17 + 15, none⟩ = some (.bool ba) := HC.u 15 _ rfl; have c16 : W.cell? ⟨b, k * 17 + 16, none⟩ = some (.bool bb) := HC.u 16 _ rfl
 go_upto_region 2 with fail
 have HB1 := J (HB.u.alloc HB.u.size (.cells #[.int .i64 kind, .int .i64 target, .int .i64 act, .int .u64 (ai : Int), .int .u64 (ah : Int), .int .u64 (ad : Int), .int .u64 (am : Int), .int .u64 (aw : Int), .bool aa, .bool ab, .int .u64 (bi : Int), .int .u64 (bh : Int), .int .u64 (bd : Int), .int .u64 (bm : Int), .int .u64 (bw : Int), .bool ba, .bool bb] 171))
 have HR1 := J (HR.u.alloc (.cells #[.int .i64 kind, .int .i64 target, .int .i64 act, .int .u64 (ai : Int), .int .u64 (ah : Int), .int .u64 (ad : Int), .int .u64 (am : Int), .int .u64 (aw : Int), .bool aa, .bool ab, .int .u64 (bi : Int), .int .u64 (bh : Int), .int .u64 (bd : Int), .int .u64 (bm : Int), .int .u64 (bw : Int), .bool ba, .bool bb] 171))
 have HH1 := J (HH.u.alloc (.cells #[.int .i64 kind, .int .i64 target, .int .i64 act, .int .u64 (ai : Int), .int .u64 (ah : Int), .int .u64 (ad : Int), .int .u64 (am : Int), .int .u64 (aw : Int), .bool aa, .bool ab, .int .u64 (bi : Int), .int .u64 (bh : Int), .int .u64 (bd : Int), .int .u64 (bm : Int), .int .u64 (bw : Int), .bool ba, .bool bb] 171))
 have HT1 := J (G.At.made W 171 #[.int .i64 kind, .int .i64 target, .int .i64 act, .int .u64 (ai : Int), .int .u64 (ah : Int), .int .u64 (ad : Int), .int .u64 (am : Int), .int .u64 (aw : Int), .bool aa, .bool ab, .int .u64 (bi : Int), .int .u64 (bh : Int), .int .u64 (bd : Int), .int .u64 (bm : Int), .int .u64 (bw : Int), .bool ba, .bool bb])
 have hbw := (Below.refl W.heap.size W).alloc (Nat.le_refl _) (.cells #[.int .i64 kind, .int .i64 target, .int .i64 act, .int .u64 (ai : Int), .int .u64 (ah : Int), .int .u64 (ad : Int), .int .u64 (am : Int), .int .u64 (aw : Int), .bool aa, .bool ab, .int .u64 (bi : Int), .int .u64 (bh : Int), .int .u64 (bd : Int), .int .u64 (bm : Int), .int .u64 (bw : Int), .bool ba, .bool bb] 171)
 have HN1 := J (HN.u.below hbw (Nat.le_refl _))
 have HCF1 := J ((hbw.cell (p := ⟨bf, k, none⟩) HBF.u).trans HCF.u)
 generalize W.alloc (.cells #[.int .i64 kind, .int .i64 target, .int .i64 act, .int .u64 (ai : Int), .int .u64 (ah : Int), .int .u64 (ad : Int), .int .u64 (am : Int), .int .u64 (aw : Int), .bool aa, .bool ab, .int .u64 (bi : Int), .int .u64 (bh : Int), .int .u64 (bd : Int), .int .u64 (bm : Int), .int .u64 (bw : Int), .bool ba, .bool bb] 171) = W1 at HB1 HR1 HH1 HT1 HN1 HCF1 ⊢
 have HTn := J (show w.heap.size ≤ W.heap.size from HB.u.size)
 generalize W.heap.size = gt at HT1 HTn ⊢
 clear hbw x7 x17 x19 c0 c1 c2 c3 c4 c5 c6 c7 c8 c9 c10 c11 c12 c13 c14 c15 c16 HB HR HH HN HC HCF HBL HBF
 as_aux_lemma =>
 have x19 := HH1.u.here (i := 19) rfl
 have x7 := HH1.u.here (i := 7) rfl
 have c0 := HCF1.u
 by_cases f0 : 0 < f
 ·have HV1 := J (show R = (if 0 < l.p.after ∧ l.p.after ≤ f then l.p.back else have0, true) by rw [← HV.u]; unfold oneT; rw [if_pos f0])
  have HBn := J (fun n => below_drewN HB1.u n)
  have x6 := HH1.u.here (i := 6) rfl
  generalize l.p.after = af at x7 HV1
  by_cases a0 : 0 < af
  ·by_cases a1 : af ≤ f
   ·have HF := J (show R = (l.p.back, true) by rw [HV1.u, if_pos ⟨a0, a1⟩])
    go_wp2_with fail
    go_quiet (fail)
    go_wp2_with fail
    go_ret2
    exact ⟨by rw [HF.u] <;> rfl, HBn.u _⟩
   have HF := J (show R = (have0, true) by rw [HV1.u, if_neg (fun q => a1 q.2)])
   have a2 : f < af := by omega
   clear a1
   go_wp2_with fail
   go_quiet (fail)
   go_wp2_with fail
   go_ret2
   exact ⟨by rw [HF.u] <;> rfl, HBn.u _⟩
  have HF := J (show R = (have0, true) by rw [HV1.u, if_neg (fun q => a0 q.1)])
  have a2 : decide (0 < af) = false := decide_eq_false a0
  have a3 : af ≤ 0 := by omega
  clear a0
  go_wp2_with fail
  go_quiet (fail)
  go_wp2_with fail
  go_ret2
  exact ⟨by rw [HF.u] <;> rfl, HBn.u _⟩
 have f1 : f ≤ 0 := by omega
 obtain ⟨X, hX⟩ : ∃ X, needR ⟨ai, ah, ad, am, aw, aa, ab⟩ ⟨bi, bh, bd, bm, bw, ba, bb⟩ kind target act sec l.p.shift failed (G.metN kind (G.spot xs) xs.length) ((G.metM kind (G.spot xs) xs.length : Nat) : Int) = X := ⟨_, rfl⟩
 obtain ⟨V, hV⟩ : ∃ V, wantR have0 l.p.tol kind target failed (G.metN kind (G.spot xs) xs.length) (needR ⟨ai, ah, ad, am, aw, aa, ab⟩ ⟨bi, bh, bd, bm, bw, ba, bb⟩ kind target act 0 0 failed (G.metN kind (G.spot xs) xs.length) ((G.metM kind (G.spot xs) xs.length : Nat) : Int)).1 = V := ⟨_, rfl⟩
 have HV1 := J (show R = (if kind = 3 then X.1 else V.1, X.2.1) by rw [← HV.u, ← hX, ← hV]; unfold oneT; rw [if_neg f0]; rfl)
 rw [hX] at HO
 rw [hV] at HW
 clear hX hV f0 HV x7
 go_upto_region 6 with fail
 clear c0 f1 x19
 have z0 := HT1.u.here (i := 0) rfl; have z1 := HT1.u.here (i := 1) rfl; have z2 := HT1.u.here (i := 2) rfl; have z3 := HT1.u.here (i := 3) rfl; have z4 := HT1.u.here (i := 4) rfl; have z5 := HT1.u.here (i := 5) rfl; have z6 := HT1.u.here (i := 6) rfl; have z7 := HT1.u.here (i := 7) rfl; have z8 := HT1.u.here (i := 8) rfl; have z9 := HT1.u.here (i := 9) rfl; have z10 := HT1.u.here (i := 10) rfl; have z11 := HT1.u.here (i := 11) rfl; have z12 := HT1.u.here (i := 12) rfl; have z13 := HT1.u.here (i := 13) rfl; have z14 := HT1.u.here (i := 14) rfl; have z15 := HT1.u.here (i := 15) rfl; have z16 := HT1.u.here (i := 16) rfl
 have r0 := HR1.u.here (i := 0) rfl; have r1 := HR1.u.here (i := 1) rfl
 have x8 := HH1.u.here (i := 8) rfl
 obtain ⟨v0, v1, v2⟩ := X
 go_cut [13, 14] (fun s13 s14 wx => ∃ q : Nat, s13 = .pointer (some ⟨q, 0, none⟩) ∧ s14 = .int .i64 v2 ∧ Hid (OneMid w wx g gt q T #[.string l.p.name, .int .i64 l.p.mn, .int .i64 l.p.mx, .int .i64 l.p.poll, .int .i64 l.p.cool, .int .i64 l.p.tol, .int .i64 l.p.back, .int .i64 l.p.after, .int .i64 l.p.shift, .int .i64 l.p.up.win, .int .i64 l.p.up.pods, .int .i64 l.p.up.pct, .int .i64 l.p.up.per, .int .i64 l.p.down.win, .int .i64 l.p.down.pods, .int .i64 l.p.down.pct, .int .i64 l.p.down.per, .slice (some ⟨b, 0, none⟩) l.p.trigs.length cb, .pointer (some ⟨gs, 0, none⟩), .slice (some ⟨bf, 0, none⟩) l.fails.length cf, .bool l.looked, .int .i64 l.last, .int .i64 l.needed, .int .i64 l.pause] #[.int .i64 kind, .int .i64 target, .int .i64 act, .int .u64 (ai : Int), .int .u64 (ah : Int), .int .u64 (ad : Int), .int .u64 (am : Int), .int .u64 (aw : Int), .bool aa, .bool ab, .int .u64 (bi : Int), .int .u64 (bh : Int), .int .u64 (bd : Int), .int .u64 (bm : Int), .int .u64 (bw : Int), .bool ba, .bool bb] #[.bool failed, .slice A xs.length cap] v0 v1 A xs))
 case first =>
  have HTz := J (HT1.u.alloc (.cells #[.int .i64 0, .bool false] 285))
  have HRz := J (HR1.u.alloc (.cells #[.int .i64 0, .bool false] 285))
  have HHz := J (HH1.u.alloc (.cells #[.int .i64 0, .bool false] 285))
  have HGz := J (G.At.made W1 285 #[.int .i64 0, .bool false])
  have HBz := J (HB1.u.alloc HB1.u.size (.cells #[.int .i64 0, .bool false] 285))
  have HNz := J (HN1.u.below ((Below.refl W1.heap.size W1).alloc (Nat.le_refl _) (.cells #[.int .i64 0, .bool false] 285)) (Nat.le_refl _))
  have n1 : gt ≠ W1.heap.size := by have := HT1.u.inside; omega
  have n2 : w.heap.size ≠ W1.heap.size := by have := HR1.u.inside; omega
  have n3 : g ≠ W1.heap.size := by have := HH1.u.inside; omega
  have n4 := Ne.symm n1; have n5 := Ne.symm n2; have n6 := Ne.symm n3
  go_wp2_with fail
  go_region_held3 (fun w' => w'.cell? ⟨gt, 0, none⟩ = some (.int .i64 kind) ∧ w'.cell? ⟨gt, 1, none⟩ = some (.int .i64 target) ∧ w'.cell? ⟨gt, 2, none⟩ = some (.int .i64 act) ∧ w'.cell? ⟨gt, 3, none⟩ = some (.int .u64 (ai : Int)) ∧ w'.cell? ⟨gt, 4, none⟩ = some (.int .u64 (ah : Int)) ∧ w'.cell? ⟨gt, 5, none⟩ = some (.int .u64 (ad : Int)) ∧ w'.cell? ⟨gt, 6, none⟩ = some (.int .u64 (am : Int)) ∧ w'.cell? ⟨gt, 7, none⟩ = some (.int .u64 (aw : Int)) ∧ w'.cell? ⟨gt, 8, none⟩ = some (.bool aa) ∧ w'.cell? ⟨gt, 9, none⟩ = some (.bool ab) ∧ w'.cell? ⟨gt, 10, none⟩ = some (.int .u64 (bi : Int)) ∧ w'.cell? ⟨gt, 11, none⟩ = some (.int .u64 (bh : Int)) ∧ w'.cell? ⟨gt, 12, none⟩ = some (.int .u64 (bd : Int)) ∧ w'.cell? ⟨gt, 13, none⟩ = some (.int .u64 (bm : Int)) ∧ w'.cell? ⟨gt, 14, none⟩ = some (.int .u64 (bw : Int)) ∧ w'.cell? ⟨gt, 15, none⟩ = some (.bool ba) ∧ w'.cell? ⟨gt, 16, none⟩ = some (.bool bb) ∧ w'.cell? ⟨w.heap.size, 0, none⟩ = some (.bool failed) ∧ w'.cell? ⟨w.heap.size, 1, none⟩ = some (.slice A xs.length cap) ∧ w'.cell? ⟨g, 8, none⟩ = some (.int .i64 l.p.shift)) (first | exact ⟨z0, z1, z2, z3, z4, z5, z6, z7, z8, z9, z10, z11, z12, z13, z14, z15, z16, r0, r1, x8⟩ | exact ⟨y0, y1, y2, y3, y4, y5, y6, y7, y8, y9, y10, y11, y12, y13, y14, y15, y16, s0, s1, x9⟩ | go_keep) (first | (go_at_call 191; refine (HO.u (W1.alloc (.cells #[.int .i64 0, .bool false] 285)).drew (show NumsIn (W1.alloc (.cells #[.int .i64 0, .bool false] 285)).drew A xs from HNz.u)).mono ?_; rintro e w3 ⟨rfl, hb3⟩; have HB3 := J (HBz.u.drew.trans (hb3.mono HBz.u.drew.size)); have HT3 := J (G.At.below HTz.u.drew hb3 HTz.u.drew.inside); have HR3 := J (G.At.below HRz.u.drew hb3 HRz.u.drew.inside); have HH3 := J (G.At.below HHz.u.drew hb3 HHz.u.drew.inside); have HG3 := J (G.At.below HGz.u.drew hb3 HGz.u.drew.inside); have HW3 := J ((((Below.refl W1.heap.size W1).alloc (Nat.le_refl _) (.cells #[.int .i64 0, .bool false] 285)).drew).trans (hb3.mono (by simp))); clear hb3; have y0 := HT3.u.here (i := 0) rfl; have y1 := HT3.u.here (i := 1) rfl; have y2 := HT3.u.here (i := 2) rfl; have y3 := HT3.u.here (i := 3) rfl; have y4 := HT3.u.here (i := 4) rfl; have y5 := HT3.u.here (i := 5) rfl; have y6 := HT3.u.here (i := 6) rfl; have y7 := HT3.u.here (i := 7) rfl; have y8 := HT3.u.here (i := 8) rfl; have y9 := HT3.u.here (i := 9) rfl; have y10 := HT3.u.here (i := 10) rfl; have y11 := HT3.u.here (i := 11) rfl; have y12 := HT3.u.here (i := 12) rfl; have y13 := HT3.u.here (i := 13) rfl; have y14 := HT3.u.here (i := 14) rfl; have y15 := HT3.u.here (i := 15) rfl; have y16 := HT3.u.here (i := 16) rfl; have s0 := HR3.u.here (i := 0) rfl; have s1 := HR3.u.here (i := 1) rfl; have x9 := HH3.u.here (i := 8) rfl; have j0 := HG3.u.here (i := 0) rfl; have j1 := HG3.u.here (i := 1) rfl; have p0 := HG3.u.soft 0; have p1 := HG3.u.soft 1) | (go_at_call 191; refine (HO.u W1.drew (show NumsIn W1.drew A xs from HN1.u)).mono ?_; rintro e w3 ⟨rfl, hb3⟩; have HB3 := J (HB1.u.drew.trans (hb3.mono HB1.u.drew.size)); have HT3 := J (G.At.below HT1.u.drew hb3 HT1.u.drew.inside); have HR3 := J (G.At.below HR1.u.drew hb3 HR1.u.drew.inside); have HH3 := J (G.At.below HH1.u.drew hb3 HH1.u.drew.inside); have HW3 := J (((Below.refl W1.heap.size W1).drew).trans hb3); clear hb3; have y0 := HT3.u.here (i := 0) rfl; have y1 := HT3.u.here (i := 1) rfl; have y2 := HT3.u.here (i := 2) rfl; have y3 := HT3.u.here (i := 3) rfl; have y4 := HT3.u.here (i := 4) rfl; have y5 := HT3.u.here (i := 5) rfl; have y6 := HT3.u.here (i := 6) rfl; have y7 := HT3.u.here (i := 7) rfl; have y8 := HT3.u.here (i := 8) rfl; have y9 := HT3.u.here (i := 9) rfl; have y10 := HT3.u.here (i := 10) rfl; have y11 := HT3.u.here (i := 11) rfl; have y12 := HT3.u.here (i := 12) rfl; have y13 := HT3.u.here (i := 13) rfl; have y14 := HT3.u.here (i := 14) rfl; have y15 := HT3.u.here (i := 15) rfl; have y16 := HT3.u.here (i := 16) rfl; have s0 := HR3.u.here (i := 0) rfl; have s1 := HR3.u.here (i := 1) rfl; have x9 := HH3.u.here (i := 8) rfl))
  all_goals go_wp2_with fail
  all_goals go_meet
  ·have HWz := HW3.u.alloc HW3.u.size (.cells #[.int .i64 v0, .bool v1] 285)
   exact ⟨_, rfl, rfl, J ⟨G.At.made _ _ _, HT3.u.alloc _, HR3.u.alloc _, HH3.u.alloc _, HN1.u.below HWz (Nat.le_refl _), HB1.u.trans (HWz.mono HB1.u.size)⟩⟩
  have HWz := (HW3.u.setCell (p := ⟨W1.heap.size, 0, none⟩) (Nat.le_refl _) (.int .i64 v0)).setCell (p := ⟨W1.heap.size, 1, none⟩) (Nat.le_refl _) (.bool v1)
  exact ⟨_, rfl, rfl, J ⟨(HG3.u.put 0 _).put 1 _, (HT3.u.other n1 _).other n1 _, (HR3.u.other n2 _).other n2 _, (HH3.u.other n3 _).other n3 _, HN1.u.below HWz (Nat.le_refl _), HB1.u.trans (HWz.mono HB1.u.size)⟩⟩
 obtain ⟨q, rfl, rfl, hM⟩ := hcut
 clear HT1 HR1 HH1 HB1 HN1 HO HTn HCF1 z0 z1 z2 z3 z4 z5 z6 z7 z8 z9 z10 z11 z12 z13 z14 z15 z16 r0 r1 x8
 have m0 := hM.u.need.here (i := 0) rfl
 have m1 := hM.u.need.here (i := 1) rfl
 have HBn := J (fun n => below_drewN hM.u.below n)
 obtain ⟨V0, V1⟩ := V
 by_cases hk3 : kind = 3
 ·have HF := J (show R = (v0, v1) by rw [HV1.u, if_pos hk3])
  subst hk3
  have z0 := hM.u.trg.here (i := 0) rfl
  clear hM HV1 HW
  go_wp2_with fail
  go_quiet (fail)
  go_wp2_with fail
  go_ret2
  exact ⟨by rw [HF.u] <;> rfl, HBn.u _⟩
 have HF := J (show R = (V0, v1) by rw [HV1.u, if_neg hk3])
 have hkb : (kind == 3) = false := by simpa using hk3
 have z0 := hM.u.trg.here (i := 0) rfl; have z1 := hM.u.trg.here (i := 1) rfl; have z2 := hM.u.trg.here (i := 2) rfl; have z3 := hM.u.trg.here (i := 3) rfl; have z4 := hM.u.trg.here (i := 4) rfl; have z5 := hM.u.trg.here (i := 5) rfl; have z6 := hM.u.trg.here (i := 6) rfl; have z7 := hM.u.trg.here (i := 7) rfl; have z8 := hM.u.trg.here (i := 8) rfl; have z9 := hM.u.trg.here (i := 9) rfl; have z10 := hM.u.trg.here (i := 10) rfl; have z11 := hM.u.trg.here (i := 11) rfl; have z12 := hM.u.trg.here (i := 12) rfl; have z13 := hM.u.trg.here (i := 13) rfl; have z14 := hM.u.trg.here (i := 14) rfl; have z15 := hM.u.trg.here (i := 15) rfl; have z16 := hM.u.trg.here (i := 16) rfl
 have r0 := hM.u.rd.here (i := 0) rfl; have r1 := hM.u.rd.here (i := 1) rfl
 have x5 := hM.u.head.here (i := 5) rfl
 clear hk3 HV1
 as_aux_lemma =>
 go_upto_region 9 with fail
 go_region_held3 (fun w' => w'.cell? ⟨gt, 0, none⟩ = some (.int .i64 kind) ∧ w'.cell? ⟨gt, 1, none⟩ = some (.int .i64 target) ∧ w'.cell? ⟨gt, 2, none⟩ = some (.int .i64 act) ∧ w'.cell? ⟨gt, 3, none⟩ = some (.int .u64 (ai : Int)) ∧ w'.cell? ⟨gt, 4, none⟩ = some (.int .u64 (ah : Int)) ∧ w'.cell? ⟨gt, 5, none⟩ = some (.int .u64 (ad : Int)) ∧ w'.cell? ⟨gt, 6, none⟩ = some (.int .u64 (am : Int)) ∧ w'.cell? ⟨gt, 7, none⟩ = some (.int .u64 (aw : Int)) ∧ w'.cell? ⟨gt, 8, none⟩ = some (.bool aa) ∧ w'.cell? ⟨gt, 9, none⟩ = some (.bool ab) ∧ w'.cell? ⟨gt, 10, none⟩ = some (.int .u64 (bi : Int)) ∧ w'.cell? ⟨gt, 11, none⟩ = some (.int .u64 (bh : Int)) ∧ w'.cell? ⟨gt, 12, none⟩ = some (.int .u64 (bd : Int)) ∧ w'.cell? ⟨gt, 13, none⟩ = some (.int .u64 (bm : Int)) ∧ w'.cell? ⟨gt, 14, none⟩ = some (.int .u64 (bw : Int)) ∧ w'.cell? ⟨gt, 15, none⟩ = some (.bool ba) ∧ w'.cell? ⟨gt, 16, none⟩ = some (.bool bb) ∧ w'.cell? ⟨w.heap.size, 0, none⟩ = some (.bool failed) ∧ w'.cell? ⟨w.heap.size, 1, none⟩ = some (.slice A xs.length cap) ∧ w'.cell? ⟨g, 5, none⟩ = some (.int .i64 l.p.tol) ∧ w'.cell? ⟨q, 1, none⟩ = some (.bool v1)) (first | exact ⟨z0, z1, z2, z3, z4, z5, z6, z7, z8, z9, z10, z11, z12, z13, z14, z15, z16, r0, r1, x5, m1⟩ | exact ⟨y0, y1, y2, y3, y4, y5, y6, y7, y8, y9, y10, y11, y12, y13, y14, y15, y16, s0, s1, x9, m9⟩ | go_keep) (first | (go_at_call 192; refine (HW.u wc.drew (show NumsIn wc.drew A xs from hM.u.nums)).mono ?_; rintro e w3 ⟨rfl, hb3⟩; have HB3 := J (hM.u.below.drew.trans (hb3.mono hM.u.below.drew.size)); have HM3 := J (G.At.below hM.u.need.drew hb3 hM.u.need.drew.inside); have HT3 := J (G.At.below hM.u.trg.drew hb3 hM.u.trg.drew.inside); have HR3 := J (G.At.below hM.u.rd.drew hb3 hM.u.rd.drew.inside); have HH3 := J (G.At.below hM.u.head.drew hb3 hM.u.head.drew.inside); clear hb3; have y0 := HT3.u.here (i := 0) rfl; have y1 := HT3.u.here (i := 1) rfl; have y2 := HT3.u.here (i := 2) rfl; have y3 := HT3.u.here (i := 3) rfl; have y4 := HT3.u.here (i := 4) rfl; have y5 := HT3.u.here (i := 5) rfl; have y6 := HT3.u.here (i := 6) rfl; have y7 := HT3.u.here (i := 7) rfl; have y8 := HT3.u.here (i := 8) rfl; have y9 := HT3.u.here (i := 9) rfl; have y10 := HT3.u.here (i := 10) rfl; have y11 := HT3.u.here (i := 11) rfl; have y12 := HT3.u.here (i := 12) rfl; have y13 := HT3.u.here (i := 13) rfl; have y14 := HT3.u.here (i := 14) rfl; have y15 := HT3.u.here (i := 15) rfl; have y16 := HT3.u.here (i := 16) rfl; have s0 := HR3.u.here (i := 0) rfl; have s1 := HR3.u.here (i := 1) rfl; have x9 := HH3.u.here (i := 5) rfl; have m9 := HM3.u.here (i := 1) rfl))
 all_goals
  have m2 : w3.cell? ⟨q, 1, none⟩ = some (.bool v1) := m9
  have HBn3 := J (fun n => below_drewN HB3.u n)
  clear y0 y1 y2 y3 y4 y5 y6 y7 y8 y9 y10 y11 y12 y13 y14 y15 y16 s0 s1 x9 m9 HT3 HR3 HH3 HM3 HB3 z0 z1 z2 z3 z4 z5 z6 z7 z8 z9 z10 z11 z12 z13 z14 z15 z16 r0 r1 x5 m0 m1
  go_wp2_with fail
  go_quiet (fail)
  go_wp2_with fail
  go_ret2
  exact ⟨by rw [HF.u] <;> rfl, HBn3.u _⟩
end Go.Proofs.YtoidcbpcnikejaaGreatDoor
