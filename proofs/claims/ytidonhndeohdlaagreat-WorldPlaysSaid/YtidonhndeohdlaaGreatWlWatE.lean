/- The contract of the reference's Look. -/
import Derived.Test.YtidonhndeohdlaaGreatWl34
import Derived.Test.YtidonhndeohdlaaGreatWl28
import Derived.Test.YtidonhndeohdlaaGreatWlStbL
set_option linter.unusedVariables false
set_option linter.unusedSimpArgs false
set_option maxRecDepth 100000
set_option maxHeartbeats 12800000
namespace Go.Proofs.YtidonhndeohdlaaGreat
open Go.RowKit
theorem mixed_new {F fs : List Int} {n k : Nat} (h1 : F.length = n) (hk : k < n) : (mixed F fs (k + 1))[k]? = F[k]? := by
 unfold mixed
 rw [List.getElem?_append_left (by rw [List.length_take]; omega), List.getElem?_take, if_pos (by omega)]
theorem watLookNo (RT S1 S2 R : Nat → Prop) (g gs : Nat) (vt vf vw vm v : Value) (l : Lp) (now sec have0 : Int) (rs : List RdV) (busy : Bool) (w : World) (h : WatAt RT S1 S2 w g gs vt vf vw vm l) (hr : RdsIn R w v rs) (hRT : ∀ b, RT b → b < w.heap.size)
  (hrl : rs.length ≤ 9223372036854775807) (hl : l.p.trigs.length ≤ 5) (hok : lookOk l now sec have0 rs.length = false) :
  Calls Tryz.prog 82 #[.pointer (some ⟨g, 0, none⟩), .int .i64 now, .int .i64 sec, .int .i64 have0, v, .bool busy] w (WatPost RT S1 S2 w g gs vt vf l now sec have0 (rs.map RdV.rd) busy) := by
 have HF := J (wat_no (busy := busy) h hRT (rs := rs.map RdV.rd) (by rw [List.length_map]; exact hok))
 obtain ⟨A, cap, rfl, _⟩ := hr.list
 obtain ⟨At, capt, rfl, _⟩ := h.trg
 have HB := J (Below.refl w.heap.size w)
 have x21 : w.cell? ⟨g, 21, none⟩ = some (.int .i64 l.last) := h.head.here rfl
 have x17 : w.cell? ⟨g, 17, none⟩ = some (.slice At l.p.trigs.length capt) := h.head.here rfl
 unfold lookOk at hok
 generalize rs.length = n at hrl hok HF ⊢
 generalize l.p.trigs.length = m at hl hok HF x17 ⊢
 clear h hr
 go_enter Tryz.func82, Tryz.ntmps82
 go_wp2_with fail
 by_cases a0 : l.last ≤ now ∧ now ≤ 1099511627776
 case neg =>
  clear hok
  refine (refIn_no now l.last 1099511627776 _ (by omega)).mono ?_
  rintro e wa ⟨rfl, rfl⟩
  go_wp2_with fail
  go_ret2
  exact HF.u _ HB.u
 refine (refIn_yes now l.last 1099511627776 _ a0.1 a0.2).mono ?_
 rintro e wa ⟨rfl, rfl⟩
 go_wp2_with fail
 by_cases a1 : -100000000000 ≤ sec ∧ sec ≤ 100000000000
 case neg =>
  clear hok
  refine (refIn_no sec (-100000000000) 100000000000 _ (by omega)).mono ?_
  rintro e wa ⟨rfl, rfl⟩
  go_wp2_with fail
  go_ret2
  exact HF.u _ HB.u
 refine (refIn_yes sec (-100000000000) 100000000000 _ a1.1 a1.2).mono ?_
 rintro e wa ⟨rfl, rfl⟩
 go_wp2_with fail
 by_cases a2 : 0 ≤ have0 ∧ have0 ≤ 50
 case neg =>
  clear hok
  refine (refIn_no have0 0 50 _ (by omega)).mono ?_
  rintro e wa ⟨rfl, rfl⟩
  go_wp2_with fail
  go_ret2
  exact HF.u _ HB.u
 refine (refIn_yes have0 0 50 _ a2.1 a2.2).mono ?_
 rintro e wa ⟨rfl, rfl⟩
 have hne : n ≠ m := by
  rintro rfl
  simp [a0.1, a0.2, a1.1, a1.2, a2.1, a2.2] at hok
 have hnb : ((n : Int) != (m : Int)) = true := by simp; omega
 clear hok a0 a1 a2
 go_wp2_with fail
 go_ret2
 exact HF.u _ HB.u
theorem watLookYes (RT S1 S2 R : Nat → Prop) (g gs : Nat) (vt vf vw vm v : Value) (l : Lp) (now sec have0 : Int) (rs : List RdV) (busy : Bool) (j : Nat) (w : World) (h : WatAt RT S1 S2 w g gs vt vf vw vm l) (hr : RdsIn R w v rs)
  (hRS : ∀ b, R b → ¬ S1 b ∧ ¬ S2 b) (hRT : ∀ b, RT b → b < w.heap.size) (hl : l.ok j) (hj : j ≤ 90000) (hok : lookOk l now sec have0 rs.length = true) :
  Calls Tryz.prog 82 #[.pointer (some ⟨g, 0, none⟩), .int .i64 now, .int .i64 sec, .int .i64 have0, v, .bool busy] w (WatPost RT S1 S2 w g gs vt vf l now sec have0 (rs.map RdV.rd) busy) := by
 have hpl := planE_ok hl.plan
 have HOK := J (show lookOk l now sec have0 (rs.map RdV.rd).length = true by rw [List.length_map]; exact hok)
 have HP := J (fun (wx : World) (hp : 0 ≤ l.pause) hL (hc : G.Chg S1 w wx) => wat_pause (RT := RT) (S1 := S1) (S2 := S2) (w := w) (wx := wx) (g := g) (gs := gs) (vt := vt) (vf := vf) (vw := vw) (vm := vm) (busy := busy) HOK.u hp hL hc h.lim hRT)
 have HS0 := J (show G.Stb.ok l.s j from hl.st)
 have HSl := J (show l.s.last ≤ l.last from hl.sl)
 have HFb := J hl.fail
 have HFit := J hl.fits
 have HNd := J (show 0 ≤ l.needed ∧ l.needed ≤ l.last from ⟨hl.need0, hl.need1⟩)
 obtain ⟨A, cap, rfl, _⟩ := hr.list
 obtain ⟨At, capt, rfl, _⟩ := id h.trg
 obtain ⟨Af, capf, rfl, _, _, _⟩ := h.fls.slice
 have HFl := J (show l.fails.length = l.p.trigs.length from hl.many)
 have HK0 := J (show Wk RT S1 S2 R w w g gs _ _ vw vm l _ rs from ⟨h, hr, G.Chg.refl _ _, h.lim, h.st.lim, hRS, hRT⟩)
 unfold lookOk at hok
 simp only [Bool.and_eq_true, decide_eq_true_eq] at hok
 obtain ⟨b0, b1, b2, b3, b4, b5, b6⟩ := hok
 have HN := J b6
 have hnb : ((rs.length : Int) != (l.p.trigs.length : Int)) = false := by rw [b6]; simp
 have hfew : (l.p.trigs.length : Int) ≤ 5 := by have := hpl.few; omega
 have hfew2 : (rs.length : Int) ≤ 5 := by omega
 have hfew3 : (l.fails.length : Int) ≤ 5 := by have := HFl.u; omega
 have HPl := J hpl
 have hlast0 := hl.last0
 have hj2 : (j : Int) ≤ 90000 := by omega
 clear h hr hl hpl hRS hRT b6
 have x21 : w.cell? ⟨g, 21, none⟩ = some (.int .i64 l.last) := HK0.u.wat.head.here rfl
 have x17 : w.cell? ⟨g, 17, none⟩ = some (.slice At l.p.trigs.length capt) := HK0.u.wat.head.here rfl
 go_enter Tryz.func82, Tryz.ntmps82
 go_wp2_with fail
 refine (refIn_yes now l.last 1099511627776 _ b0 b1).mono ?_
 rintro e wa ⟨rfl, rfl⟩
 go_wp2_with fail
 refine (refIn_yes sec (-100000000000) 100000000000 _ b2 b3).mono ?_
 rintro e wa ⟨rfl, rfl⟩
 go_wp2_with fail
 refine (refIn_yes have0 0 50 _ b4 b5).mono ?_
 rintro e wa ⟨rfl, rfl⟩
 go_upto_region 3 with fail
 go_cut [] (fun wx => Hid (Wk RT S1 S2 R w wx g gs (.slice At l.p.trigs.length capt) (.slice Af l.fails.length capf) vw vm { l with looked := true, last := now } (.slice A rs.length cap) rs))
 case first =>
  have x20 : w.cell? ⟨g, 20, none⟩ = some (.bool l.looked) := HK0.u.wat.head.here rfl
  have p20 := HK0.u.wat.head.soft 20
  have p21 := HK0.u.wat.head.soft 21
  have HE := J ((HK0.u.put (l' := { l with looked := true }) (i := 20) (u := .bool true) rfl rfl rfl rfl).put (l' := { l with looked := true, last := now }) (i := 21) (u := .int .i64 now) rfl rfl rfl rfl)
  go_wp2_with fail
  go_meet
  exact HE
 have HK1 := hcut
 clear hcut HK0 x21 x17 hnb
 obtain ⟨F, HF0⟩ : ∃ F, Hid (failsL l.p.trigs (rs.map RdV.rd) l.fails = F) := ⟨_, J rfl⟩
 have HFn := J (show F.length = rs.length by rw [← HF0.u]; exact failsL_length HN.u.symm (by rw [List.length_map]) (HFl.u.trans HN.u.symm))
 have HFn2 := J (HFl.u.trans HN.u.symm)
 obtain ⟨L, hL⟩ : ∃ L, l.seen now (rs.map RdV.rd) = L := ⟨_, rfl⟩
 have HL := J hL
 have HLp := J (show L.p = l.p by rw [← hL]; rfl)
 have HLf := J (show L.fails = F by rw [← hL, ← HF0.u]; rfl)
 clear hL
 as_aux_lemma =>
 go_wp2_with fail
 go_loopw [14, 15, 16] (fun a c i wr => ∃ (k : Nat) (P : Int) (B : Bool), k ≤ rs.length ∧ i = .int .i64 k ∧ a = .int .i64 P ∧ c = .bool B ∧ Hid (toldK L sec have0 (rs.map RdV.rd) busy k = (P, B)) ∧ Hid (Wk RT S1 S2 R w wr g gs (.slice At l.p.trigs.length capt) (.slice Af l.fails.length capf) vw vm { l with looked := true, last := now, fails := mixed F l.fails k } (.slice A rs.length cap) rs)) (fun _ _ i _ => rs.length - (intOf i).toNat)
 case atStart => exact ⟨0, 0, busy, Nat.zero_le _, rfl, rfl, rfl, J (toldK_zero _ _ _ _ _), by rw [mixed_zero]; exact HK1⟩
 clear HK1
 obtain ⟨k, P, B, hk, rfl, rfl, rfl, HT0, HK⟩ := hrel
 by_cases hlt : k < rs.length
 ·obtain ⟨r, hr⟩ := G.get_some rs hlt
  obtain ⟨t, ht⟩ := G.get_some l.p.trigs (show k < l.p.trigs.length by have := HN.u; omega)
  obtain ⟨f, hf⟩ := G.get_some l.fails (show k < l.fails.length by have := HFn2.u; omega)
  have HRk := J hr
  have HTk := J ht
  obtain ⟨_, bt, offt, rfl, hbt, hct⟩ := HK.u.wat.trg.at ht
  obtain ⟨_, b, off, rfl, _, _⟩ := HK.u.rds.at hr
  obtain ⟨bf, cf, ef, hbf, c0⟩ := int_row HK.u.wat.fls (show (mixed F l.fails k)[k]? = some f by rw [mixed_get HFn.u hlt]; exact hf)
  obtain ⟨rfl, ef2, rfl⟩ := slice_eq ef
  have hfb := HFb.u f (List.mem_of_getElem? hf)
  have hfx := failsL_get (r := r.rd) ht (by rw [List.getElem?_map, hr]; rfl) hf
  rw [HF0.u] at hfx
  have hfit := HFit.u t (List.mem_of_getElem? ht)
  have HFx := J hfx
  obtain ⟨kind, target, act, ⟨ai, ah, ad, am, aw, aa, ab⟩, ⟨bi, bh, bd, bm, bw, ba, bb⟩⟩ := t
  have HFi := J hfit
  have HA := J (HK.u.alloc (.cells #[.int .i64 kind, .int .i64 target, .int .i64 act, .int .u64 (ai : Int), .int .u64 (ah : Int), .int .u64 (ad : Int), .int .u64 (am : Int), .int .u64 (aw : Int), .bool aa, .bool ab, .int .u64 (bi : Int), .int .u64 (bh : Int), .int .u64 (bd : Int), .int .u64 (bm : Int), .int .u64 (bw : Int), .bool ba, .bool bb] 63))
  have HX := J (G.At.made wr 63 #[.int .i64 kind, .int .i64 target, .int .i64 act, .int .u64 (ai : Int), .int .u64 (ah : Int), .int .u64 (ad : Int), .int .u64 (am : Int), .int .u64 (aw : Int), .bool aa, .bool ab, .int .u64 (bi : Int), .int .u64 (bh : Int), .int .u64 (bd : Int), .int .u64 (bm : Int), .int .u64 (bw : Int), .bool ba, .bool bb])
  have hbw := (Below.refl wr.heap.size wr).alloc (Nat.le_refl _) (.cells #[.int .i64 kind, .int .i64 target, .int .i64 act, .int .u64 (ai : Int), .int .u64 (ah : Int), .int .u64 (ad : Int), .int .u64 (am : Int), .int .u64 (aw : Int), .bool aa, .bool ab, .int .u64 (bi : Int), .int .u64 (bh : Int), .int .u64 (bd : Int), .int .u64 (bm : Int), .int .u64 (bw : Int), .bool ba, .bool bb] 63)
  have HC0 := J ((hbw.cell (p := ⟨bf, k, none⟩) hbf).trans c0)
  have HBf := J hbf
  have HLe := J (show (mixed F l.fails k).length = l.fails.length from ef2.symm)
  have k0 : (0 : Int) ≤ (k : Int) := by omega
  have k1 : (k : Int) < (rs.length : Int) := by omega
  have k2 : (k : Int) < (l.p.trigs.length : Int) := by have := HN.u; omega
  have k3 : (k : Int) < (l.fails.length : Int) := by have := HFn2.u; omega
  have x17 : wr.cell? ⟨g, 17, none⟩ = some (.slice (some ⟨bt, offt, none⟩) l.p.trigs.length capt) := HK.u.wat.head.here rfl
  have y0 : wr.cell? ⟨bt, offt + k * 17, none⟩ = some (.int .i64 kind) := hct 0 _ rfl; have y1 : wr.cell? ⟨bt, offt + k * 17 + 1, none⟩ = some (.int .i64 target) := hct 1 _ rfl; have y2 : wr.cell? ⟨bt, offt + k * 17 + 2, none⟩ = some (.int .i64 act) := hct 2 _ rfl; have y3 : wr.cell? ⟨bt, offt + k * 17 + 3, none⟩ = some (.int .u64 (ai : Int)) := hct 3 _ rfl; have y4 : wr.cell? ⟨bt, offt + k * 17 + 4, none⟩ = some (.int .u64 (ah : Int)) := hct 4 _ rfl; have y5 : wr.cell? ⟨bt, offt + k * 17 + 5, none⟩ = some (.int .u64 (ad : Int)) := hct 5 _ rfl; have y6 : wr.cell? ⟨bt, offt + k * 17 + 6, none⟩ = some (.int .u64 (am : Int)) := hct 6 _ rfl; have y7 : wr.cell? ⟨bt, offt + k * 17 + 7, none⟩ = some (.int .u64 (aw : Int)) := hct 7 _ rfl; have y8 : wr.cell? ⟨bt, offt + k * 17 + 8, none⟩ = some (.bool aa) := hct 8 _ rfl; have y9 : wr.cell? ⟨bt, offt + k * 17 + 9, none⟩ = some (.bool ab) := hct 9 _ rfl; have y10 : wr.cell? ⟨bt, offt + k * 17 + 10, none⟩ = some (.int .u64 (bi : Int)) := hct 10 _ rfl; have y11 : wr.cell? ⟨bt, offt + k * 17 + 11, none⟩ = some (.int .u64 (bh : Int)) := hct 11 _ rfl; have y12 : wr.cell? ⟨bt, offt + k * 17 + 12, none⟩ = some (.int .u64 (bd : Int)) := hct 12 _ rfl; have y13 : wr.cell? ⟨bt, offt + k * 17 + 13, none⟩ = some (.int .u64 (bm : Int)) := hct 13 _ rfl; have y14 : wr.cell? ⟨bt, offt + k * 17 + 14, none⟩ = some (.int .u64 (bw : Int)) := hct 14 _ rfl; have y15 : wr.cell? ⟨bt, offt + k * 17 + 15, none⟩ = some (.bool ba) := hct 15 _ rfl; have y16 : wr.cell? ⟨bt, offt + k * 17 + 16, none⟩ = some (.bool bb) := hct 16 _ rfl
  obtain ⟨f0, f1⟩ := hfb
  clear HK hr ht hf hbt hct ef hbf c0 hfx ef2 hbw hfit
  go_upto_region 9 with fail
  clear x17 y0 y1 y2 y3 y4 y5 y6 y7 y8 y9 y10 y11 y12 y13 y14 y15 y16
  generalize wr.alloc (.cells #[.int .i64 kind, .int .i64 target, .int .i64 act, .int .u64 (ai : Int), .int .u64 (ah : Int), .int .u64 (ad : Int), .int .u64 (am : Int), .int .u64 (aw : Int), .bool aa, .bool ab, .int .u64 (bi : Int), .int .u64 (bh : Int), .int .u64 (bd : Int), .int .u64 (bm : Int), .int .u64 (bw : Int), .bool ba, .bool bb] 63) = W at HA HX HC0 ⊢
  have HZ := J HA.u.chg.size
  generalize hgt : wr.heap.size = gt at HX HBf ⊢
  have HGt := J (show bf ≠ gt by have := HBf.u; omega)
  clear hgt HBf
  as_aux_lemma =>
  have x19 : W.cell? ⟨g, 19, none⟩ = some (.slice (some ⟨bf, 0, none⟩) l.fails.length capf) := HA.u.wat.head.here rfl
  have c0 := HC0.u
  have pf0 : W.frozen? ⟨bf, k, none⟩ = false := by
   obtain ⟨b9, c9, e9, _, _, _, h9⟩ := HA.u.wat.fls.form (show 0 < (mixed F l.fails k).length by have := HLe.u; have := HFn2.u; omega)
   obtain ⟨e8, _, _⟩ := slice_eq e9
   cases e8
   exact h9.soft k
  have HK1 := J (HA.u.fail (x := f + 1) (k := k) (by rw [HLe.u]) (show k < (mixed F l.fails k).length by have := HLe.u; have := HFn2.u; omega))
  have HX1 := J (HX.u.other (p := ⟨bf, k, none⟩) (fun e => HGt.u e.symm) (.int .i64 (f + 1)))
  have HP1 := J (show (W.setCell ⟨bf, k, none⟩ (.int .i64 (f + 1))).frozen? ⟨bf, k, none⟩ = false from by
   obtain ⟨b9, c9, e9, _, _, _, h9⟩ := HK1.u.wat.fls.form (show 0 < ((mixed F l.fails k).set k (f + 1)).length by rw [List.length_set]; have := HLe.u; have := HFn2.u; omega)
   obtain ⟨e8, _, _⟩ := slice_eq e9
   cases e8
   exact h9.soft k)
  have HC1 := J (show (W.setCell ⟨bf, k, none⟩ (.int .i64 (f + 1))).cell? ⟨bf, k, none⟩ = some (.int .i64 (f + 1)) from by
   obtain ⟨b9, c9, e9, _, h9⟩ := int_row HK1.u.wat.fls (show ((mixed F l.fails k).set k (f + 1))[k]? = some (f + 1) by rw [List.getElem?_set_self (by have := HLe.u; have := HFn2.u; omega)])
   obtain ⟨e8, _, _⟩ := slice_eq e9
   cases e8
   exact h9)
  go_upto_region 10 with fail
  clear x19 c0 pf0
  generalize W.setCell ⟨bf, k, none⟩ (.int .i64 (f + 1)) = W1 at HK1 HX1 HP1 HC1 ⊢
  clear HA HX HC0 HZ
  obtain ⟨bq, hbq⟩ : ∃ bq, (!r.failed || kind == 3) = bq := ⟨_, rfl⟩
  have HBq := J hbq
  clear hbq
  go_cut [93] (fun s wx => s = .bool bq ∧ W1 = wx)
  case first =>
   obtain ⟨_, b7, off7, e7, d0, _⟩ := HK1.u.rds.at HRk.u
   cases e7
   have t0 := HX1.u.here (i := 0) rfl
   cases hrf : r.failed
   ·rw [hrf] at d0 HBq
    have HV := J (show bq = true from HBq.u.symm)
    clear hrf HBq
    go_wp2_with fail
    go_meet
    exact ⟨by rw [HV.u] <;> rfl, rfl⟩
   rw [hrf] at d0 HBq
   have HV := J (show bq = (kind == 3) from HBq.u.symm)
   clear hrf HBq
   go_wp2_with fail
   go_meet
   exact ⟨by rw [HV.u] <;> rfl, rfl⟩
  obtain ⟨rfl, rfl⟩ := hcut
  have HFo := J (show failOf ⟨kind, target, act, ⟨ai, ah, ad, am, aw, aa, ab⟩, ⟨bi, bh, bd, bm, bw, ba, bb⟩⟩ r.rd f = if bq then 0 else f + 1 by
   rw [← HBq.u]; unfold failOf RdV.rd; simp only
   cases r.failed <;> cases hk3 : (kind == 3) <;> simp)
  have HSet := J (fun x (hx : F[k]? = some x) => mixed_set HFn.u HFn2.u hlt hx)
  have HFo2 := J (show F[k]? = some (if bq then 0 else f + 1) by rw [← HFo.u]; exact HFx.u)
  as_aux_lemma =>
  go_upto_if 93 with fail
  go_cut [] (fun wx => Hid (Wk RT S1 S2 R w wx g gs (.slice (some ⟨bt, offt, none⟩) l.p.trigs.length capt) (.slice (some ⟨bf, 0, none⟩) l.fails.length capf) vw vm { l with looked := true, last := now, fails := mixed F l.fails (k + 1) } (.slice (some ⟨b, off, none⟩) rs.length cap) rs) ∧ Hid (G.At wx gt 63 #[.int .i64 kind, .int .i64 target, .int .i64 act, .int .u64 (ai : Int), .int .u64 (ah : Int), .int .u64 (ad : Int), .int .u64 (am : Int), .int .u64 (aw : Int), .bool aa, .bool ab, .int .u64 (bi : Int), .int .u64 (bh : Int), .int .u64 (bd : Int), .int .u64 (bm : Int), .int .u64 (bw : Int), .bool ba, .bool bb]))
  case first =>
   cases bq
   ·have HE := J (HSet.u _ HFo2.u)
    simp only [Bool.false_eq_true, if_false] at HE
    go_wp2_with fail
    go_meet
    exact ⟨by rw [HE.u] at HK1; exact HK1, HX1⟩
   have HE := J (HSet.u _ HFo2.u)
   simp only [if_true] at HE
   have x19 : W1.cell? ⟨g, 19, none⟩ = some (.slice (some ⟨bf, 0, none⟩) l.fails.length capf) := HK1.u.wat.head.here rfl
   have pf0 := HP1.u
   have c1 := HC1.u
   have HK2 := J (HK1.u.fail (x := 0) (k := k) (show Value.slice (some ⟨bf, 0, none⟩) l.fails.length capf = .slice (some ⟨bf, 0, none⟩) ((mixed F l.fails k).set k (f + 1)).length capf by rw [List.length_set, HLe.u]) (show k < ((mixed F l.fails k).set k (f + 1)).length by rw [List.length_set]; have := HLe.u; have := HFn2.u; omega))
   have HX2 := J (HX1.u.other (p := ⟨bf, k, none⟩) (fun e => HGt.u e.symm) (.int .i64 0))
   go_wp2_with fail
   go_meet
   exact ⟨by have h9 := HK2.u; simp only [List.set_set] at h9; rw [HE.u] at h9; exact J h9, HX2⟩
  obtain ⟨HK2, HX2⟩ := hcut
  clear HK1 HX1 HP1 HC1
  obtain ⟨fv, hfv⟩ : ∃ fv, (if bq then 0 else f + 1) = fv := ⟨_, rfl⟩
  have HFv := J (show F[k]? = some fv by rw [← hfv]; exact HFo2.u)
  have hfv0 : 0 ≤ fv := by rw [← hfv]; split <;> omega
  obtain ⟨N, C, hNC⟩ : ∃ N C, oneT l.p ⟨kind, target, act, ⟨ai, ah, ad, am, aw, aa, ab⟩, ⟨bi, bh, bd, bm, bw, ba, bb⟩⟩ fv r.rd sec have0 = (N, C) := ⟨_, _, rfl⟩
  have HNC := J hNC
  have HTs := J (told_step (L := L) (sec := sec) (have0 := have0) (busy := busy) (t := ⟨kind, target, act, ⟨ai, ah, ad, am, aw, aa, ab⟩, ⟨bi, bh, bd, bm, bw, ba, bb⟩⟩) (f := fv) (N := N) (C := C) (by rw [HLp.u]; exact HTk.u) HRk.u (by rw [HLf.u]; exact HFv.u) HT0.u (by rw [HLp.u]; exact hNC))
  clear hfv hNC HFo HFo2 HFx HSet HBq
  rename World => W2
  obtain ⟨b9, c9, e9, _, cf0⟩ := int_row HK2.u.wat.fls (show (mixed F l.fails (k + 1))[k]? = some fv by rw [mixed_new HFn.u hlt]; exact HFv.u)
  have e8 := (slice_eq e9).1
  cases e8
  have x19 : W2.cell? ⟨g, 19, none⟩ = some (.slice (some ⟨bf, 0, none⟩) l.fails.length capf) := HK2.u.wat.head.here rfl
  clear e9
  as_aux_lemma =>
  go_upto_block 2 with fail
  go_cut [15, 18] (fun s15 s18 wx => s15 = .bool (B || C) ∧ s18 = .int .i64 N ∧ Hid (Wk RT S1 S2 R w wx g gs (.slice (some ⟨bt, offt, none⟩) l.p.trigs.length capt) (.slice (some ⟨bf, 0, none⟩) l.fails.length capf) vw vm { l with looked := true, last := now, fails := mixed F l.fails (k + 1) } (.slice (some ⟨b, off, none⟩) rs.length cap) rs))
  case first =>
   by_cases h0 : 0 < fv
   ·have HV1 := J (show (if 0 < l.p.after ∧ l.p.after ≤ fv then l.p.back else have0, true) = (N, C) by rw [← HNC.u]; unfold oneT; rw [if_pos h0])
    have x7 : W2.cell? ⟨g, 7, none⟩ = some (.int .i64 l.p.after) := HK2.u.wat.head.here rfl
    have x6 : W2.cell? ⟨g, 6, none⟩ = some (.int .i64 l.p.back) := HK2.u.wat.head.here rfl
    have ha0 : 0 ≤ l.p.after := HPl.u.after.1
    have HDn := J (fun n => HK2.u.drewN n)
    generalize l.p.after = af at x7 HV1 ha0
    generalize l.p.back = bk at x6 HV1
    have HCt := J (show true = (B || C) by have := HV1.u; simp only [Prod.mk.injEq] at this; rw [← this.2, Bool.or_true])
    by_cases a0 : af = 0
    ·have HE := J (show have0 = N by have := HV1.u; rw [if_neg (by omega)] at this; exact congrArg Prod.fst this)
     clear ha0 HV1
     subst a0
     go_wp2_with fail
     go_quiet (fail)
     go_wp2_with fail
     go_meet
     exact ⟨by rw [← HCt.u] <;> rfl, by rw [← HE.u] <;> rfl, J (HDn.u _)⟩
    have a2 : (af != 0) = true := by simp [a0]
    by_cases a1 : af ≤ fv
    ·have HE := J (show bk = N by have := HV1.u; rw [if_pos (by omega)] at this; exact congrArg Prod.fst this)
     clear ha0 HV1
     go_wp2_with fail
     go_quiet (fail)
     go_wp2_with fail
     go_meet
     exact ⟨by rw [← HCt.u] <;> rfl, by rw [← HE.u] <;> rfl, J (HDn.u _)⟩
    have HE := J (show have0 = N by have := HV1.u; rw [if_neg (by omega)] at this; exact congrArg Prod.fst this)
    have a3 : fv < af := by omega
    clear ha0 HV1 a1
    go_wp2_with fail
    go_quiet (fail)
    go_wp2_with fail
    go_meet
    exact ⟨by rw [← HCt.u] <;> rfl, by rw [← HE.u] <;> rfl, J (HDn.u _)⟩
   have f1 : fv ≤ 0 := by omega
   obtain ⟨X, hX⟩ : ∃ X, needR ⟨ai, ah, ad, am, aw, aa, ab⟩ ⟨bi, bh, bd, bm, bw, ba, bb⟩ kind target act sec l.p.shift r.failed (G.metN kind (G.spot r.xs) r.xs.length) ((G.metM kind (G.spot r.xs) r.xs.length : Nat) : Int) = X := ⟨_, rfl⟩
   obtain ⟨V, hV⟩ : ∃ V, wantR have0 l.p.tol kind target r.failed (G.metN kind (G.spot r.xs) r.xs.length) (needR ⟨ai, ah, ad, am, aw, aa, ab⟩ ⟨bi, bh, bd, bm, bw, ba, bb⟩ kind target act 0 0 r.failed (G.metN kind (G.spot r.xs) r.xs.length) ((G.metM kind (G.spot r.xs) r.xs.length : Nat) : Int)).1 = V := ⟨_, rfl⟩
   have HV1 := J (show (if kind = 3 then X.1 else V.1, X.2.1) = (N, C) by rw [← HNC.u, ← hX, ← hV]; unfold oneT; rw [if_neg h0]; rfl)
   have hrl : r.xs.length ≤ 9223372036854775807 := HK2.u.rds.few r (List.mem_of_getElem? HRk.u)
   have HO := J (fun (W : World) (hW : NumsIn W r.A r.xs) => refNeed ai ah ad am aw bi bh bd bm bw aa ab ba bb HFi.u.1 HFi.u.2 kind target act r.failed r.A r.cap r.xs sec l.p.shift W hW hrl)
   have HW := J (fun (W : World) (hW : NumsIn W r.A r.xs) => refWant ai ah ad am aw bi bh bd bm bw aa ab ba bb HFi.u.1 HFi.u.2 have0 l.p.tol kind target act r.failed r.A r.cap r.xs W hW hrl)
   rw [hX] at HO
   rw [hV] at HW
   clear hX hV h0 hrl
   go_upto_region 13 with fail
   clear f1 x19 cf0
   obtain ⟨v0, v1, v2⟩ := X
   obtain ⟨V0, V1⟩ := V
   as_aux_lemma =>
   have z0 := HX2.u.here (i := 0) rfl
   have z1 := HX2.u.here (i := 1) rfl
   have z2 := HX2.u.here (i := 2) rfl
   have z3 := HX2.u.here (i := 3) rfl
   have z4 := HX2.u.here (i := 4) rfl
   have z5 := HX2.u.here (i := 5) rfl
   have z6 := HX2.u.here (i := 6) rfl
   have z7 := HX2.u.here (i := 7) rfl
   have z8 := HX2.u.here (i := 8) rfl
   have z9 := HX2.u.here (i := 9) rfl
   have z10 := HX2.u.here (i := 10) rfl
   have z11 := HX2.u.here (i := 11) rfl
   have z12 := HX2.u.here (i := 12) rfl
   have z13 := HX2.u.here (i := 13) rfl
   have z14 := HX2.u.here (i := 14) rfl
   have z15 := HX2.u.here (i := 15) rfl
   have z16 := HX2.u.here (i := 16) rfl
   obtain ⟨_, b7, off7, e7, r0, r1⟩ := HK2.u.rds.at HRk.u
   cases e7
   have x8 : W2.cell? ⟨g, 8, none⟩ = some (.int .i64 l.p.shift) := HK2.u.wat.head.here rfl
   go_cut [19] (fun s wx => ∃ q : Nat, s = .pointer (some ⟨q, 0, none⟩) ∧ Hid (Wk RT S1 S2 R w wx g gs (.slice (some ⟨bt, offt, none⟩) l.p.trigs.length capt) (.slice (some ⟨bf, 0, none⟩) l.fails.length capf) vw vm { l with looked := true, last := now, fails := mixed F l.fails (k + 1) } (.slice (some ⟨b, off, none⟩) rs.length cap) rs) ∧ Hid (G.At wx gt 63 #[.int .i64 kind, .int .i64 target, .int .i64 act, .int .u64 (ai : Int), .int .u64 (ah : Int), .int .u64 (ad : Int), .int .u64 (am : Int), .int .u64 (aw : Int), .bool aa, .bool ab, .int .u64 (bi : Int), .int .u64 (bh : Int), .int .u64 (bd : Int), .int .u64 (bm : Int), .int .u64 (bw : Int), .bool ba, .bool bb]) ∧ Hid (G.At wx q 176 #[.int .i64 v0, .bool v1]))
   case first =>
    have HBz := J ((Below.refl W2.heap.size W2).alloc (Nat.le_refl _) (.cells #[.int .i64 0, .bool false] 176))
    have HGz := J (G.At.made W2 176 #[.int .i64 0, .bool false])
    have HNz := J (((HK2.u.alloc (.cells #[.int .i64 0, .bool false] 176)).drew.rds.nums r (List.mem_of_getElem? HRk.u)).in)
    have HN2 := J ((HK2.u.drew.rds.nums r (List.mem_of_getElem? HRk.u)).in)
    have n1 : gt ≠ W2.heap.size := by have := HX2.u.inside; omega
    have n2 : b ≠ W2.heap.size := by
     obtain ⟨A9, c9, e9, hA9⟩ := HK2.u.rds.list
     cases e9
     obtain ⟨_, _, e8, _, hlt9, _⟩ := hA9 (by omega)
     cases e8; omega
    have n3 : g ≠ W2.heap.size := by have := HK2.u.wat.head.inside; omega
    have n4 := Ne.symm n1; have n5 := Ne.symm n2; have n6 := Ne.symm n3
    go_region_held3 (fun w' => w'.cell? ⟨gt, 0, none⟩ = some (.int .i64 kind) ∧ w'.cell? ⟨gt, 1, none⟩ = some (.int .i64 target) ∧ w'.cell? ⟨gt, 2, none⟩ = some (.int .i64 act) ∧ w'.cell? ⟨gt, 3, none⟩ = some (.int .u64 (ai : Int)) ∧ w'.cell? ⟨gt, 4, none⟩ = some (.int .u64 (ah : Int)) ∧ w'.cell? ⟨gt, 5, none⟩ = some (.int .u64 (ad : Int)) ∧ w'.cell? ⟨gt, 6, none⟩ = some (.int .u64 (am : Int)) ∧ w'.cell? ⟨gt, 7, none⟩ = some (.int .u64 (aw : Int)) ∧ w'.cell? ⟨gt, 8, none⟩ = some (.bool aa) ∧ w'.cell? ⟨gt, 9, none⟩ = some (.bool ab) ∧ w'.cell? ⟨gt, 10, none⟩ = some (.int .u64 (bi : Int)) ∧ w'.cell? ⟨gt, 11, none⟩ = some (.int .u64 (bh : Int)) ∧ w'.cell? ⟨gt, 12, none⟩ = some (.int .u64 (bd : Int)) ∧ w'.cell? ⟨gt, 13, none⟩ = some (.int .u64 (bm : Int)) ∧ w'.cell? ⟨gt, 14, none⟩ = some (.int .u64 (bw : Int)) ∧ w'.cell? ⟨gt, 15, none⟩ = some (.bool ba) ∧ w'.cell? ⟨gt, 16, none⟩ = some (.bool bb) ∧ w'.cell? ⟨b, off + k * 2, none⟩ = some (.bool r.failed) ∧ w'.cell? ⟨b, off + k * 2 + 1, none⟩ = some (.slice r.A r.xs.length r.cap) ∧ w'.cell? ⟨g, 8, none⟩ = some (.int .i64 l.p.shift)) (first | exact ⟨z0, z1, z2, z3, z4, z5, z6, z7, z8, z9, z10, z11, z12, z13, z14, z15, z16, r0, r1, x8⟩ | exact ⟨y0, y1, y2, y3, y4, y5, y6, y7, y8, y9, y10, y11, y12, y13, y14, y15, y16, s0, s1, x9⟩ | go_keep) (first | (go_at_call 119; refine (HO.u (W2.alloc (.cells #[.int .i64 0, .bool false] 176)).drew (show NumsIn (W2.alloc (.cells #[.int .i64 0, .bool false] 176)).drew r.A r.xs from HNz.u)).mono ?_; rintro e w3 ⟨rfl, hb3⟩; have HG3 := J (G.At.below HGz.u.drew hb3 HGz.u.drew.inside); have HW3 := J (HBz.u.drew.trans (hb3.mono HBz.u.drew.size)); clear hb3; have HX3 := J (HX2.u.below HW3.u HX2.u.inside); have HK3 := J (HK2.u.below HW3.u); have y0 := HX3.u.here (i := 0) rfl; have y1 := HX3.u.here (i := 1) rfl; have y2 := HX3.u.here (i := 2) rfl; have y3 := HX3.u.here (i := 3) rfl; have y4 := HX3.u.here (i := 4) rfl; have y5 := HX3.u.here (i := 5) rfl; have y6 := HX3.u.here (i := 6) rfl; have y7 := HX3.u.here (i := 7) rfl; have y8 := HX3.u.here (i := 8) rfl; have y9 := HX3.u.here (i := 9) rfl; have y10 := HX3.u.here (i := 10) rfl; have y11 := HX3.u.here (i := 11) rfl; have y12 := HX3.u.here (i := 12) rfl; have y13 := HX3.u.here (i := 13) rfl; have y14 := HX3.u.here (i := 14) rfl; have y15 := HX3.u.here (i := 15) rfl; have y16 := HX3.u.here (i := 16) rfl; obtain ⟨_, b7, off7, e7, s0, s1⟩ := HK3.u.rds.at HRk.u; cases e7; have x9 : w3.cell? ⟨g, 8, none⟩ = some (.int .i64 l.p.shift) := HK3.u.wat.head.here rfl; have j0 := HG3.u.here (i := 0) rfl; have j1 := HG3.u.here (i := 1) rfl; have p0 := HG3.u.soft 0; have p1 := HG3.u.soft 1) | (go_at_call 119; refine (HO.u W2.drew (show NumsIn W2.drew r.A r.xs from HN2.u)).mono ?_; rintro e w3 ⟨rfl, hb3⟩; have HW3 := J (((Below.refl W2.heap.size W2).drew).trans hb3); clear hb3; have HX3 := J (HX2.u.below HW3.u HX2.u.inside); have HK3 := J (HK2.u.below HW3.u); have y0 := HX3.u.here (i := 0) rfl; have y1 := HX3.u.here (i := 1) rfl; have y2 := HX3.u.here (i := 2) rfl; have y3 := HX3.u.here (i := 3) rfl; have y4 := HX3.u.here (i := 4) rfl; have y5 := HX3.u.here (i := 5) rfl; have y6 := HX3.u.here (i := 6) rfl; have y7 := HX3.u.here (i := 7) rfl; have y8 := HX3.u.here (i := 8) rfl; have y9 := HX3.u.here (i := 9) rfl; have y10 := HX3.u.here (i := 10) rfl; have y11 := HX3.u.here (i := 11) rfl; have y12 := HX3.u.here (i := 12) rfl; have y13 := HX3.u.here (i := 13) rfl; have y14 := HX3.u.here (i := 14) rfl; have y15 := HX3.u.here (i := 15) rfl; have y16 := HX3.u.here (i := 16) rfl; obtain ⟨_, b7, off7, e7, s0, s1⟩ := HK3.u.rds.at HRk.u; cases e7; have x9 : w3.cell? ⟨g, 8, none⟩ = some (.int .i64 l.p.shift) := HK3.u.wat.head.here rfl))
    all_goals go_wp2_with fail
    all_goals go_meet
    ·have HWz := HW3.u.alloc HW3.u.size (.cells #[.int .i64 v0, .bool v1] 176)
     exact ⟨_, rfl, J (HK2.u.below HWz), J (HX2.u.below HWz HX2.u.inside), J (G.At.made _ _ _)⟩
    have HWz := (HW3.u.setCell (p := ⟨W2.heap.size, 0, none⟩) (Nat.le_refl _) (.int .i64 v0)).setCell (p := ⟨W2.heap.size, 1, none⟩) (Nat.le_refl _) (.bool v1)
    exact ⟨_, rfl, J (HK2.u.below HWz), J (HX2.u.below HWz HX2.u.inside), J ((HG3.u.put 0 _).put 1 _)⟩
   obtain ⟨q, rfl, HK4, HX4, HQ4⟩ := hcut
   clear HK2 HX2 HO z0 z1 z2 z3 z4 z5 z6 z7 z8 z9 z10 z11 z12 z13 z14 z15 z16 r0 r1 x8
   rename World => W4
   as_aux_lemma =>
   have m0 := HQ4.u.here (i := 0) rfl
   have m1 := HQ4.u.here (i := 1) rfl
   go_upto_region 14 with fail
   go_cut [15] (fun s wx => s = .bool (B || v1) ∧ W4 = wx)
   case first =>
    cases B
    ·go_wp2_with fail
     go_meet
     exact ⟨rfl, rfl⟩
    go_wp2_with fail
    go_meet
    exact ⟨rfl, rfl⟩
   obtain ⟨rfl, rfl⟩ := hcut
   by_cases hk3 : kind = 3
   ·have HE := J (show (v0, v1) = (N, C) by rw [← HV1.u, if_pos hk3])
    have HE1 := J (congrArg Prod.fst HE.u); have HE2 := J (congrArg Prod.snd HE.u)
    have hkb : (kind != 3) = false := by simp [hk3]
    have z0 := HX4.u.here (i := 0) rfl
    clear hk3 HE HV1
    go_wp2_with fail
    go_meet
    exact ⟨by rw [← HE2.u] <;> rfl, by rw [← HE1.u] <;> rfl, HK4⟩
   have HE := J (show (V0, v1) = (N, C) by rw [← HV1.u, if_neg hk3])
   have HE1 := J (congrArg Prod.fst HE.u); have HE2 := J (congrArg Prod.snd HE.u)
   have hkb : (kind != 3) = true := by simpa using hk3
   have z0 := HX4.u.here (i := 0) rfl
   have z1 := HX4.u.here (i := 1) rfl
   have z2 := HX4.u.here (i := 2) rfl
   have z3 := HX4.u.here (i := 3) rfl
   have z4 := HX4.u.here (i := 4) rfl
   have z5 := HX4.u.here (i := 5) rfl
   have z6 := HX4.u.here (i := 6) rfl
   have z7 := HX4.u.here (i := 7) rfl
   have z8 := HX4.u.here (i := 8) rfl
   have z9 := HX4.u.here (i := 9) rfl
   have z10 := HX4.u.here (i := 10) rfl
   have z11 := HX4.u.here (i := 11) rfl
   have z12 := HX4.u.here (i := 12) rfl
   have z13 := HX4.u.here (i := 13) rfl
   have z14 := HX4.u.here (i := 14) rfl
   have z15 := HX4.u.here (i := 15) rfl
   have z16 := HX4.u.here (i := 16) rfl
   clear hk3 HE HV1
   go_upto_region 17 with fail
   obtain ⟨_, b7, off7, e7, r0, r1⟩ := HK4.u.rds.at HRk.u
   cases e7
   have x5 : W4.cell? ⟨g, 5, none⟩ = some (.int .i64 l.p.tol) := HK4.u.wat.head.here rfl
   have HN4 := J ((HK4.u.drew.rds.nums r (List.mem_of_getElem? HRk.u)).in)
   as_aux_lemma =>
   go_region_held3 (fun w' => w'.cell? ⟨gt, 0, none⟩ = some (.int .i64 kind) ∧ w'.cell? ⟨gt, 1, none⟩ = some (.int .i64 target) ∧ w'.cell? ⟨gt, 2, none⟩ = some (.int .i64 act) ∧ w'.cell? ⟨gt, 3, none⟩ = some (.int .u64 (ai : Int)) ∧ w'.cell? ⟨gt, 4, none⟩ = some (.int .u64 (ah : Int)) ∧ w'.cell? ⟨gt, 5, none⟩ = some (.int .u64 (ad : Int)) ∧ w'.cell? ⟨gt, 6, none⟩ = some (.int .u64 (am : Int)) ∧ w'.cell? ⟨gt, 7, none⟩ = some (.int .u64 (aw : Int)) ∧ w'.cell? ⟨gt, 8, none⟩ = some (.bool aa) ∧ w'.cell? ⟨gt, 9, none⟩ = some (.bool ab) ∧ w'.cell? ⟨gt, 10, none⟩ = some (.int .u64 (bi : Int)) ∧ w'.cell? ⟨gt, 11, none⟩ = some (.int .u64 (bh : Int)) ∧ w'.cell? ⟨gt, 12, none⟩ = some (.int .u64 (bd : Int)) ∧ w'.cell? ⟨gt, 13, none⟩ = some (.int .u64 (bm : Int)) ∧ w'.cell? ⟨gt, 14, none⟩ = some (.int .u64 (bw : Int)) ∧ w'.cell? ⟨gt, 15, none⟩ = some (.bool ba) ∧ w'.cell? ⟨gt, 16, none⟩ = some (.bool bb) ∧ w'.cell? ⟨b, off + k * 2, none⟩ = some (.bool r.failed) ∧ w'.cell? ⟨b, off + k * 2 + 1, none⟩ = some (.slice r.A r.xs.length r.cap) ∧ w'.cell? ⟨g, 5, none⟩ = some (.int .i64 l.p.tol)) (first | exact ⟨z0, z1, z2, z3, z4, z5, z6, z7, z8, z9, z10, z11, z12, z13, z14, z15, z16, r0, r1, x5⟩ | exact ⟨y0, y1, y2, y3, y4, y5, y6, y7, y8, y9, y10, y11, y12, y13, y14, y15, y16, s0, s1, x9⟩ | go_keep) (first | (go_at_call 120; refine (HW.u W4.drew (show NumsIn W4.drew r.A r.xs from HN4.u)).mono ?_; rintro e w3 ⟨rfl, hb3⟩; have HW3 := J (((Below.refl W4.heap.size W4).drew).trans hb3); clear hb3; have HX3 := J (HX4.u.below HW3.u HX4.u.inside); have HK3 := J (HK4.u.below HW3.u); have y0 := HX3.u.here (i := 0) rfl; have y1 := HX3.u.here (i := 1) rfl; have y2 := HX3.u.here (i := 2) rfl; have y3 := HX3.u.here (i := 3) rfl; have y4 := HX3.u.here (i := 4) rfl; have y5 := HX3.u.here (i := 5) rfl; have y6 := HX3.u.here (i := 6) rfl; have y7 := HX3.u.here (i := 7) rfl; have y8 := HX3.u.here (i := 8) rfl; have y9 := HX3.u.here (i := 9) rfl; have y10 := HX3.u.here (i := 10) rfl; have y11 := HX3.u.here (i := 11) rfl; have y12 := HX3.u.here (i := 12) rfl; have y13 := HX3.u.here (i := 13) rfl; have y14 := HX3.u.here (i := 14) rfl; have y15 := HX3.u.here (i := 15) rfl; have y16 := HX3.u.here (i := 16) rfl; obtain ⟨_, b7, off7, e7, s0, s1⟩ := HK3.u.rds.at HRk.u; cases e7; have x9 : w3.cell? ⟨g, 5, none⟩ = some (.int .i64 l.p.tol) := HK3.u.wat.head.here rfl))
   all_goals
    go_wp2_with fail
    go_meet
    exact ⟨by rw [← HE2.u] <;> rfl, by rw [← HE1.u] <;> rfl, HK3⟩
  obtain ⟨rfl, rfl, HK5⟩ := hcut
  clear HK2 HX2 x19 cf0
  by_cases hPN : P < N
  ·have HTz := J (show toldK L sec have0 (rs.map RdV.rd) busy (k + 1) = (N, B || C) by rw [HTs.u, show max P N = N by omega])
   go_wp2_with fail
   go_roundw
   case rel => exact ⟨k + 1, N, B || C, by omega, by go_num, rfl, rfl, HTz, HK5⟩
   case measure => simp [intOf]; omega
  have HTz := J (show toldK L sec have0 (rs.map RdV.rd) busy (k + 1) = (P, B || C) by rw [HTs.u, show max P N = P by omega])
  go_wp2_with fail
  go_roundw
  case rel => exact ⟨k + 1, P, B || C, by omega, by go_num, rfl, rfl, HTz, HK5⟩
  case measure => simp [intOf]; omega
 have hke : k = rs.length := by omega
 subst hke
 rw [mixed_all HFn.u HFn2.u] at HK
 have HK2 : Hid (Wk RT S1 S2 R w wr g gs (.slice At l.p.trigs.length capt) (.slice Af l.fails.length capf) vw vm L (.slice A rs.length cap) rs) := by
  have e : L = { l with looked := true, last := now, fails := F } := by rw [← HL.u]; unfold Lp.seen; rw [HF0.u]
  rw [e]; exact HK
 have hP := HT0.u
 rw [toldK_all (n := rs.length) (by rw [HLp.u]; exact HN.u.symm) (by rw [List.length_map]) (by rw [HLf.u]; exact HFn.u)] at hP
 have HTold := J hP
 have HLz := J (show L.pause = l.pause by rw [← HL.u]; rfl)
 have HLs := J (show L.s = l.s by rw [← HL.u]; rfl)
 have HLn := J (show L.needed = l.needed by rw [← HL.u]; rfl)
 have x23 : wr.cell? ⟨g, 23, none⟩ = some (.int .i64 l.pause) := by rw [← HLz.u]; exact HK2.u.wat.head.here rfl
 clear HK HFn HFn2 HF0 HFb hP HT0
 by_cases hp : 0 ≤ l.pause
 ·have HPe := J (fun w' hb => HP.u wr hp (by rw [HL.u]; exact HK2.u.wat) HK2.u.chg w' hb)
  clear HP
  go_wp2_with fail
  go_ret2
  exact HPe.u _ (Below.refl _ _)
 have hp2 : l.pause < 0 := by omega
 have HD := J (fun (M : Lp) (x y : Int) (w1 w2 w' : World) (vw' vm' : Value) hM hx hy h1 hc h0 hr hs hc2 hb => wat_end (RT := RT) (S1 := S1) (S2 := S2) (w := w) (w1 := w1) (w2 := w2) (w' := w') (g := g) (gs := gs) (vt := .slice At l.p.trigs.length capt) (vf := .slice Af l.fails.length capf) (vw := vw) (vm := vm) (vw' := vw') (vm' := vm') (l := l) (M := M) (now := now) (sec := sec) (have0 := have0) (x := x) (y := y) (rs := rs.map RdV.rd) (busy := busy) HOK.u hp2 hM hx hy h1 hc h0 hr hs hc2 hb)
 clear HP hp HOK
 obtain ⟨M, hM⟩ : ∃ M, L.marked now B = M := ⟨_, rfl⟩
 have HMp := J (show M.p = L.p by rw [← hM]; cases B <;> rfl)
 have HMt := J (show M.s = l.s by rw [← hM, ← HLs.u]; cases B <;> rfl)
 have HMd := J hM
 clear hM
 obtain ⟨LO, hLO⟩ : ∃ LO, lowOf M.p M.needed now have0 B = LO := ⟨_, rfl⟩
 have HLO := J hLO
 have HMm := J (show M.p.mn = l.p.mn by rw [HMp.u, HLp.u])
 have hLO0 : 0 ≤ LO := by rw [← hLO]; exact lowOf_nonneg (by rw [HMm.u]; have := HPl.u.mn; omega) _ _ _ _
 clear hLO
 have x1 : wr.cell? ⟨g, 1, none⟩ = some (.int .i64 l.p.mn) := by rw [← HLp.u]; exact HK2.u.wat.head.here rfl
 rename World => wo
 as_aux_lemma =>
 go_upto_if 193 with fail
 clear x1 x23
 go_cut [21] (fun s wx => s = .int .i64 LO ∧ Hid (Wk RT S1 S2 R w wx g gs (.slice At l.p.trigs.length capt) (.slice Af l.fails.length capf) vw vm M (.slice A rs.length cap) rs))
 case first =>
  cases B
  ·have HE := J (show L = M from HMd.u)
   have HV := J (show LO = if now - l.p.cool < l.needed then max l.p.mn (min have0 1) else l.p.mn by
    rw [← HLO.u, ← HE.u, HLp.u, HLn.u]; rfl)
   have x22 : wo.cell? ⟨g, 22, none⟩ = some (.int .i64 l.needed) := by rw [← HLn.u]; exact HK2.u.wat.head.here rfl
   have x4 : wo.cell? ⟨g, 4, none⟩ = some (.int .i64 l.p.cool) := by rw [← HLp.u]; exact HK2.u.wat.head.here rfl
   have HDn := J (fun n => HK2.u.drewN n)
   rw [HE.u] at HDn
   have hn0 := HNd.u.1
   have hn1 := HNd.u.2
   have hc0 := HPl.u.cool
   have q1 : IntKind.i64.wrap (now - l.needed) = now - l.needed := IntWalk.i64_in _ (by omega)
   generalize l.p.mn = mn at HV ⊢
   generalize l.p.cool = cool at HV x4 hc0
   generalize l.needed = nd at HV x22 hn0 hn1 q1
   by_cases ht : now - nd < cool
   ·have HF := J (show LO = max mn (min have0 1) by rw [HV.u, if_pos (by omega)])
    clear HV
    go_wp2_with fail
    go_quiet (fail)
    go_wp2_with fail
    all_goals
     go_meet
     exact ⟨congrArg (Value.int .i64) (by rw [HF.u]; omega), J (HDn.u _)⟩
   have HF := J (show LO = mn by rw [HV.u, if_neg (by omega)])
   have ht2 : cool ≤ now - nd := by omega
   clear HV ht
   go_wp2_with fail
   go_quiet (fail)
   go_wp2_with fail
   go_meet
   exact ⟨congrArg (Value.int .i64) HF.u.symm, J (HDn.u _)⟩
  have HE := J (show { L with needed := now } = M from HMd.u)
  have HF := J (show LO = max l.p.mn 1 by rw [← HLO.u, ← HMm.u]; rfl)
  have x22 : wo.cell? ⟨g, 22, none⟩ = some (.int .i64 L.needed) := HK2.u.wat.head.here rfl
  have p22 := HK2.u.wat.head.soft 22
  have HE2 := J (HK2.u.put (l' := { L with needed := now }) (i := 22) (u := .int .i64 now) rfl rfl rfl rfl)
  rw [HE.u] at HE2
  generalize l.p.mn = mn at HF ⊢
  go_wp2_with fail
  all_goals
   go_meet
   exact ⟨congrArg (Value.int .i64) (by rw [HF.u]; omega), HE2⟩
 obtain ⟨rfl, HK4⟩ := hcut
 clear HK2
 rename World => W4
 have HMx := J (show 0 ≤ M.p.mx ∧ M.p.mx ≤ 50 by rw [HMp.u, HLp.u]; have := HPl.u.mx; omega)
 obtain ⟨mx, hmx⟩ : ∃ mx, M.p.mx = mx := ⟨_, rfl⟩
 have HMv := J hmx
 have mx0 : 0 ≤ mx := by rw [← hmx]; exact HMx.u.1
 have mx1 : mx ≤ 50 := by rw [← hmx]; exact HMx.u.2
 have x18 : W4.drew.cell? ⟨g, 18, none⟩ = some (.pointer (some ⟨gs, 0, none⟩)) := HK4.u.drew.wat.head.here rfl
 have x2 : W4.drew.cell? ⟨g, 2, none⟩ = some (.int .i64 mx) := by rw [← hmx]; exact HK4.u.drew.wat.head.here rfl
 clear hmx
 obtain ⟨x, hx⟩ : ∃ x, clipOf LO mx P = x := ⟨_, rfl⟩
 have hxb := clipOf_bd (n := P) hLO0 mx0 mx1
 rw [hx] at hxb
 have HX := J hx
 obtain ⟨X1, hX1⟩ : ∃ X1, max P LO = X1 := ⟨_, rfl⟩
 have hx2 : min X1 mx = x := by rw [← hX1, ← hx]; rfl
 have E1 : (if P < LO then LO else P) = X1 := by rw [← hX1]; split <;> omega
 have E2 : (if mx < X1 then mx else X1) = x := by rw [← hx2]; split <;> omega
 have HSok := J (show M.s.ok j by rw [HMt.u]; exact HS0.u)
 have HSE := J (show G.settleE M.s now have0 x = 0 by
  unfold G.settleE G.settleOk
  have := HSl.u
  rw [HMt.u, decide_eq_true (show l.s.last ≤ now by omega), decide_eq_true b1, decide_eq_true b4, decide_eq_true b5, decide_eq_true hxb.1, decide_eq_true hxb.2]; rfl)
 have HK5 := J HK4.u.drew
 clear hx hX1 hx2 HK4
 as_aux_lemma =>
 go_upto_region 31 with fail
 go_region_held3 (fun w' => w'.cell? ⟨g, 18, none⟩ = some (.pointer (some ⟨gs, 0, none⟩)) ∧ w'.cell? ⟨g, 2, none⟩ = some (.int .i64 mx)) (first | exact ⟨x18, x2⟩ | exact ⟨z18, z2⟩ | go_keep) (first | (go_at_call 121; refine (calSettle S2 gs M.s vw vm now have0 x W4.drew j HK5.u.wat.st HSok.u hj).mono ?_; rintro e w6 ⟨rfl, ⟨vw6, vm6, h6⟩, c6⟩; rw [HSE.u]; have HS6 := J h6; have HC6 := J c6; clear h6 c6; have HZ6 := J (HK5.u.wat.head.chg HC6.u (HK5.u.wat.dis g HK5.u.wat.own)); have z18 : w6.cell? ⟨g, 18, none⟩ = some (.pointer (some ⟨gs, 0, none⟩)) := HZ6.u.here rfl; have z2 : w6.cell? ⟨g, 2, none⟩ = some (.int .i64 mx) := by rw [← HMv.u]; exact HZ6.u.here rfl) | (go_simp; (try simp only [E1, E2])))
 all_goals
  have HDn := J (fun (y : Int) (hy : min (max (G.settleN M.s now have0 x) LO) mx = y) => HD.u M x y W4.drew w6 w6 vw6 vm6 (by rw [HL.u, HTold.u]; exact HMd.u)
   (by rw [HL.u]; unfold Lp.wish; rw [HTold.u]; show clipOf (lowOf L.p (L.marked now B).needed now have0 B) L.p.mx P = x; rw [HMd.u, ← HMp.u, HLO.u, HMv.u]; exact HX.u)
   (by rw [HL.u, HTold.u]; show clipOf (lowOf M.p M.needed now have0 B) _ _ = _; rw [HLO.u, HMv.u]; exact hy) HK5.u.wat HK5.u.chg HK5.u.one HK5.u.rtl HS6.u HC6.u (Below.refl _ _))
  generalize G.settleN M.s now have0 x = NN at HDn ⊢
  clear x18 x2 E1 E2 z18
  go_wp2_with fail
  all_goals
   go_ret2
   exact HDn.u _ (by omega)
end Go.Proofs.YtidonhndeohdlaaGreat
