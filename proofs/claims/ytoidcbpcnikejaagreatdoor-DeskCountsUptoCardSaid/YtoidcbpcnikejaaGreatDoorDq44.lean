/- Parts of this claim: DskS, DskT. -/
import Derived.Test.YtoidcbpcnikejaaGreatDoorDq38
import Derived.Test.YtoidcbpcnikejaaGreatDoorDqPpnC
import Derived.Test.YtoidcbpcnikejaaGreatDoorDqPrdY
import Derived.Test.YtoidcbpcnikejaaGreatDoorDq43
set_option linter.unusedVariables false
set_option linter.unusedSimpArgs false
set_option maxRecDepth 100000
set_option maxHeartbeats 12800000
namespace Go.Proofs.YtoidcbpcnikejaaGreatDoor
open Go.RowKit
theorem printP (p : Pln) (A : Option Addr) (cap : Nat) (w : World) (ht : G.ListIn w 17 Trg.enc (.slice A p.trigs.length cap) p.trigs) (hf : ∀ t ∈ p.trigs, t.fits) (hn : p.name.size ≤ 9223372036854775807) (hl : p.trigs.length ≤ 9223372036854775807) (hT : PowTab w) :
  Calls Tryz.prog 57 #[.agg (plnC p (.slice A p.trigs.length cap))] w (PrnPost p w) := by
 obtain ⟨name, mn, mx, poll, cool, tol, back, after, shift, ⟨u0, u1, u2, u3⟩, ⟨d0, d1, d2, d3⟩, ts⟩ := p
 exact planPrint name mn mx poll cool tol back after shift u0 u1 u2 u3 d0 d1 d2 d3 A cap ts w ht hf hn hl hT
theorem read_few (s : ByteArray) : (∀ t ∈ (readR s).1.trigs, t.fits) ∧ (readR s).1.name.size ≤ 16 ∧ (readR s).1.trigs.length ≤ 5 := by
 rcases (read_is s).2 with ⟨_, h, hf⟩ | ⟨_, h⟩
 ·exact ⟨hf, (planE_fine h).name, (planE_fine h).few⟩
 rw [h]; exact ⟨fun t ht => by (cases ht), by decide, by decide⟩
structure ShowK (d : Dk) (p : Pln) (k X : Int) : Prop where
 e : X = (readR d.text).2.2
 k : k = ((readR d.text).2.1 : Int)
 p : p = (readR d.text).1
theorem showA_bad {d : Dk} {p : Pln} {k X : Int} (h : ShowK d p k X) (hx : X ≠ 0) : showA d = .fault X k := by
 unfold showA; rw [← h.e, ← h.k, if_pos hx]
theorem showA_is {d : Dk} {p : Pln} {k X : Int} (h : ShowK d p k X) (hx : X = 0) : showA d = chk (planE p) ((if planE p = 0 then p.text else ⟨#[]⟩) ++ dkOk) := by
 unfold showA; rw [← h.e, if_neg (by rw [hx]; simp), ← h.p]
theorem madeA_no {d : Dk} {ws : List ByteArray} (h : numsOk ws 3 = false) : madeA d ws = (.fault 3 (-1), d) := by
 unfold madeA; rw [if_pos h]
theorem madeA_bad {d : Dk} {ws : List ByteArray} {p : Pln} {k X : Int} (hn : numsOk ws 3 = true) (h : ShowK d p k X) (hx : X ≠ 0) : madeA d ws = (.fault X k, d) := by
 unfold madeA; rw [if_neg (by rw [hn]; decide), ← h.e, ← h.k, if_pos hx]
theorem madeA_new {d : Dk} {ws : List ByteArray} {p : Pln} {k X a b c E : Int} (hn : numsOk ws 3 = true) (h : ShowK d p k X) (hx : X = 0) (h0 : argV ws 0 = a) (h2 : argV ws 2 = c) (hE : newE p a c = E) (he : E ≠ 0) : madeA d ws = (.fault E (-1), d) := by
 unfold madeA; rw [if_neg (by rw [hn]; decide), ← h.e, if_neg (by rw [hx]; simp), ← h.p, h0, h2, hE, if_pos he]
theorem madeA_is {d : Dk} {ws : List ByteArray} {p : Pln} {k X a b c : Int} (hn : numsOk ws 3 = true) (h : ShowK d p k X) (hx : X = 0) (h0 : argV ws 0 = a) (h1 : argV ws 1 = b) (h2 : argV ws 2 = c) (hE : newE p a c = 0) : madeA d ws = (.text dkOk, { d with wo := some (newWo p a b c) }) := by
 unfold madeA; rw [if_neg (by rw [hn]; decide), ← h.e, if_neg (by rw [hx]; simp), ← h.p, h0, h1, h2, hE, if_neg (by simp)]
theorem checkAt_err {X k : Int} (hx : X ≠ 0) (w : World) : Calls Tryz.prog 55 #[.int .i64 X, .int .i64 k] w fun en w' => ∃ v, en = .returned v ∧ ErrAt w' v X k ∧ Below w.heap.size w w' :=
 (deskCheckAt X k w).mono fun en w' ⟨v, h1, h2, h3⟩ => ⟨v, h1, by rw [if_neg hx] at h2; exact h2, h3⟩
theorem parseK {d : Dk} (hd : d.text.size ≤ 2048) {p : Pln} {k X : Int} (h : ShowK d p k X) (w : World) (hE : Env w) :
  Calls Tryz.prog 54 #[.string d.text] w fun e w' => ∃ A cap, e = .returned (.tuple #[.agg (plnC p (.slice A p.trigs.length cap)), .int .i64 k, .int .i64 X]) ∧ G.ListIn w' 17 Trg.enc (.slice A p.trigs.length cap) p.trigs ∧ Below w.heap.size w w' := by
 obtain ⟨m, hm⟩ := hE.len
 obtain ⟨rfl, rfl, rfl⟩ := h
 refine (planParse d.text m w hm (by omega)).mono ?_
 rintro e w' ⟨v, rfl, hl, hb⟩
 obtain ⟨A, cap, rfl⟩ := list_slice hl
 exact ⟨A, cap, rfl, hl, hb⟩
theorem deskShow {R : Nat → Prop} {g : Nat} {d : Dk} (w : World) (hD : DkN R w g d) (hd : d.text.size ≤ 2048) (hE : Env w) : Calls Tryz.prog 36 #[.pointer (some ⟨g, 0, none⟩)] w (AnsPost (showA d) w) := by
 obtain ⟨wp, hat, _⟩ := hD.ex
 have c0 := hat.here (i := 0) rfl
 obtain ⟨p, hp⟩ : ∃ p, p = (readR d.text).1 := ⟨_, rfl⟩
 obtain ⟨k, hk⟩ : ∃ k : Int, k = ((readR d.text).2.1 : Int) := ⟨_, rfl⟩
 obtain ⟨X, hX⟩ : ∃ X, X = (readR d.text).2.2 := ⟨_, rfl⟩
 have hfew := read_few d.text
 rw [← hp] at hfew
 have HFew := J hfew
 have HK := J (show ShowK d p k X from ⟨hX, hk, hp⟩)
 have HP := J (parseK hd HK.u w hE)
 have HE := J hE
 have hb0 := Below.refl w.heap.size w
 clear hat hD hd hp hk hX hfew hE
 go_enter Tryz.func36, Tryz.ntmps36
 go_wp2_with fail
 refine HP.u.mono ?_
 rintro e w2 ⟨A, cap, rfl, hli, hb⟩
 have HZ := J (G.At.made w2 101 (plnC zeroP (.slice none 0 0)))
 clear HP c0
 go_upto_region 2 with (refine wpList_store_row rfl 101 (.tmp 4) (.tmp 14) rfl w2.heap.size (plnC p (.slice A p.trigs.length cap)) rfl rfl 101 (plnC zeroP (.slice none 0 0)) HZ.u (by kernel_rfl) rfl (by kernel_rfl) ?_)
 generalize hW3 : (w2.alloc (.cells #[.string ⟨#[]⟩, .int .i64 0, .int .i64 0, .int .i64 0, .int .i64 0, .int .i64 0, .int .i64 0, .int .i64 0, .int .i64 0, .int .i64 0, .int .i64 0, .int .i64 0, .int .i64 0, .int .i64 0, .int .i64 0, .int .i64 0, .int .i64 0, .slice none 0 0] 101)).setRow w2.heap.size (plnC p (.slice A p.trigs.length cap)) = W3
 have hA3 : G.At W3 w2.heap.size 101 (plnC p (.slice A p.trigs.length cap)) := by rw [← hW3]; exact hel_set HZ.u _
 have hB3 : Below w2.heap.size w2 W3 := by rw [← hW3]; exact hel_row ((Below.refl _ w2).alloc (Nat.le_refl _) _) (Nat.le_refl _) _
 clear hW3
 obtain ⟨gp, hgp⟩ : ∃ gp, w2.heap.size = gp := ⟨_, rfl⟩
 have HB3 := J (hb0.trans ((hb.trans (hB3.mono hb.size)).mono hb0.size))
 have HE3 := J ((HE.u.below hb).below hB3)
 have HL3 := J (hli.below hB3 (Nat.le_refl _))
 rw [hgp] at hA3 ⊢
 have HA3 := J hA3
 clear hb0 hb hB3 hli HZ hgp hA3 HE
 by_cases hx : X = 0
 ·subst hx
  have hF := showA_is HK.u rfl
  obtain ⟨S, hS⟩ : ∃ S, (if planE p = 0 then p.text else ⟨#[]⟩ : ByteArray) = S := ⟨_, rfl⟩
  obtain ⟨E, hE⟩ : ∃ E, planE p = E := ⟨_, rfl⟩
  have HPr := J (show Calls Tryz.prog 57 #[.agg (plnC p (.slice A p.trigs.length cap))] W3 fun e w' => e = .returned (.tuple #[.string S, .int .i64 E]) ∧ Below W3.heap.size W3 w' from by
   have h := printP p A cap W3 HL3.u HFew.u.1 (by have := HFew.u.2.1; omega) (by have := HFew.u.2.2; omega) HE3.u.pow
   unfold PrnPost at h
   rw [hS, hE] at h
   exact h)
  have hsz : S.size ≤ 30000 := by
   rw [← hS]
   split
   ·rename_i h; exact text_in h
   exact Nat.zero_le _
  rw [hS, hE] at hF
  have HF := J hF
  have hone : (⟨#[111, 107]⟩ : ByteArray).size = 2 := rfl
  have z1 : S.size + (⟨#[111, 107]⟩ : ByteArray).size ≤ 9223372036854775807 := by omega
  clear hF hS hE hsz hone HK HFew HL3
  go_wp2_with (refine wpList_load_row rfl 101 (.tmp 4) rfl gp rfl 101 _ (0, 0) _ HA3.u Tryz.underlying101 rfl (by kernel_rfl) ?_)
  refine HPr.u.mono ?_
  rintro e w4 ⟨rfl, hb4⟩
  have HB4 := J (HB3.u.trans (hb4.mono HB3.u.size))
  clear hb4 HPr HA3 HE3 HB3
  go_wp2_with fail
  refine (checkOr _ _).mono ?_
  rintro e w5 ⟨v5, rfl, he, hb5⟩
  have HG := J (show AnsPost (showA d) w (.returned (.tuple #[.string (S ++ ⟨#[111, 107]⟩), v5])) w5 from ⟨by rw [HF.u]; exact ans_or he, HB4.u.trans (hb5.mono HB4.u.size)⟩)
  clear he hb5
  go_wp2_with fail
  go_ret2
  exact HG.u
 have hxb : (X == 0) = false := by simpa using hx
 have HF := J (showA_bad HK.u hx)
 have HCk := J (fun W => checkAt_err (k := k) hx W)
 clear hx HK HFew HL3
 go_wp2_with fail
 refine (HCk.u _).mono ?_
 rintro e w9 ⟨v9, rfl, he, hb9⟩
 have HG := J (show AnsPost (showA d) w (.returned (.tuple #[.string ⟨#[]⟩, v9])) w9 from by rw [HF.u]; exact ⟨ans_fault he, HB3.u.trans (hb9.mono HB3.u.size)⟩)
 obtain ⟨bf, rfl, _⟩ := he
 clear hb9
 go_wp2_with fail
 go_ret2
 exact HG.u
theorem deskMade {R : Nat → Prop} {g : Nat} {d : Dk} (v : Value) (ws : List ByteArray) (w : World) (h : WdsIn w v ws) (hs : ∀ x ∈ ws, x.size ≤ 1000000) (hl : ws.length ≤ 1000000) (hD : DkN R w g d) (hd : d.text.size ≤ 2048) (hE : Env w) :
  Calls Tryz.prog 34 #[.pointer (some ⟨g, 0, none⟩), v] w (DkPost R w g (madeA d ws)) := by
 obtain ⟨p, hp⟩ : ∃ p, p = (readR d.text).1 := ⟨_, rfl⟩
 obtain ⟨k, hk⟩ : ∃ k : Int, k = ((readR d.text).2.1 : Int) := ⟨_, rfl⟩
 obtain ⟨X, hX⟩ : ∃ X, X = (readR d.text).2.2 := ⟨_, rfl⟩
 have hfew := read_few d.text
 rw [← hp] at hfew
 have HFew := J hfew
 have HK := J (show ShowK d p k X from ⟨hX, hk, hp⟩)
 have HN := J (deskNumbers v ws 3 w h hs hl (by decide))
 have HPa := J (fun W => parseK hd HK.u W)
 have HE := J hE; have HD := J hD
 obtain ⟨A0, cap0, rfl, _, _⟩ := h
 clear hD hd hp hk hX hfew hE hs hl
 go_enter Tryz.func34, Tryz.ntmps34
 go_wp2_with fail
 refine HN.u.mono ?_
 rintro e w1 hN
 cases hN with
 | bad _ v3 hno he hb =>
  have HF := J (show DkPost R w g (madeA d ws) (.returned (.tuple #[.string ⟨#[]⟩, v3])) w1 from by rw [madeA_no hno]; exact DkPost.of HD.u ⟨ans_fault he, hb⟩)
  obtain ⟨bf, rfl, _⟩ := he
  clear hno hb
  go_wp2_with fail
  go_ret2
  exact HF.u
 | good _ v3 hok hv hb0 =>
  have HOk := J hok
  have hlen := nums_len hok
  rw [hlen] at hv
  obtain ⟨b1, cap1, rfl, _, _, _, hr⟩ := hv.form (by decide)
  obtain ⟨a, ha⟩ : ∃ a, argV ws 0 = a := ⟨_, rfl⟩
  obtain ⟨b, hbv⟩ : ∃ b, argV ws 1 = b := ⟨_, rfl⟩
  obtain ⟨c, hc⟩ : ∃ c, argV ws 2 = c := ⟨_, rfl⟩
  have c0 := hr.cell (arg_get hok (k := 0) (by decide))
  have c1 := hr.cell (arg_get hok (k := 1) (by decide))
  have c2 := hr.cell (arg_get hok (k := 2) (by decide))
  rw [ha] at c0; rw [hbv] at c1; rw [hc] at c2
  have HArg := J (show argV ws 0 = a ∧ argV ws 1 = b ∧ argV ws 2 = c from ⟨ha, hbv, hc⟩)
  have HC := J (show ∀ W, Below w1.heap.size w1 W → W.cell? ⟨b1, 0, none⟩ = some (.int .i64 a) ∧ W.cell? ⟨b1, 1, none⟩ = some (.int .i64 b) ∧ W.cell? ⟨b1, 2, none⟩ = some (.int .i64 c) from fun W h => ⟨cell_b c0 h, cell_b c1 h, cell_b c2 h⟩)
  have HD1 := J (HD.u.below hb0)
  have HE := J (HE.u.below hb0)
  have HP := J (HPa.u w1 HE.u)
  have HBz := J hb0
  have hb0 := Below.refl w1.heap.size w1
  obtain ⟨wp, hat, _⟩ := HD1.u.ex
  have d0 := hat.here (i := 0) rfl
  clear hok hlen hv hr ha hbv hc c0 c1 c2 hat HN HPa
  go_wp2_with fail
  refine HP.u.mono ?_
  rintro e w2 ⟨A, cap, rfl, hli, hb⟩
  have HZ := J (G.At.made w2 101 (plnC zeroP (.slice none 0 0)))
  clear HP d0
  go_upto_region 5 with (refine wpList_store_row rfl 101 (.tmp 8) (.tmp 26) rfl w2.heap.size (plnC p (.slice A p.trigs.length cap)) rfl rfl 101 (plnC zeroP (.slice none 0 0)) HZ.u (by kernel_rfl) rfl (by kernel_rfl) ?_)
  generalize hW3 : (w2.alloc (.cells #[.string ⟨#[]⟩, .int .i64 0, .int .i64 0, .int .i64 0, .int .i64 0, .int .i64 0, .int .i64 0, .int .i64 0, .int .i64 0, .int .i64 0, .int .i64 0, .int .i64 0, .int .i64 0, .int .i64 0, .int .i64 0, .int .i64 0, .int .i64 0, .slice none 0 0] 101)).setRow w2.heap.size (plnC p (.slice A p.trigs.length cap)) = W3
  have hA3 : G.At W3 w2.heap.size 101 (plnC p (.slice A p.trigs.length cap)) := by rw [← hW3]; exact hel_set HZ.u _
  have hB3 : Below w2.heap.size w2 W3 := by rw [← hW3]; exact hel_row ((Below.refl _ w2).alloc (Nat.le_refl _) _) (Nat.le_refl _) _
  clear hW3
  obtain ⟨gp, hgp⟩ : ∃ gp, w2.heap.size = gp := ⟨_, rfl⟩
  have HB3 := J (hb0.trans ((hb.trans (hB3.mono hb.size)).mono hb0.size))
  have HE3 := J ((HE.u.below hb).below hB3)
  have HL3 := J (hli.below hB3 (Nat.le_refl _))
  rw [hgp] at hA3 ⊢
  have HA3 := J hA3
  clear hb0 hb hB3 hli HZ hgp hA3 HE
  have HBw := J (HBz.u.trans (HB3.u.mono HBz.u.size))
  by_cases hx : X = 0
  ·subst hx
   obtain ⟨d0, d1, d2⟩ := HC.u W3 HB3.u
   have HNw := J (fun W (h : G.ListIn W 17 Trg.enc (.slice A p.trigs.length cap) p.trigs) => anyNew p A cap a b c W h HFew.u.1 (by have := HFew.u.2.1; omega) (by have := HFew.u.2.2; omega))
   clear HC HFew
   go_upto_region 7 with fail
   have hS : W3.cell? ⟨b1, 0, none⟩ = some (.int .i64 a) ∧ W3.cell? ⟨b1, 1, none⟩ = some (.int .i64 b) ∧ W3.cell? ⟨b1, 2, none⟩ = some (.int .i64 c) ∧ G.At W3 gp 101 (plnC p (.slice A p.trigs.length cap)) := ⟨d0, d1, d2, HA3.u⟩
   refine wp_region_held_drew (S := fun W => W.cell? ⟨b1, 0, none⟩ = some (.int .i64 a) ∧ W.cell? ⟨b1, 1, none⟩ = some (.int .i64 b) ∧ W.cell? ⟨b1, 2, none⟩ = some (.int .i64 c) ∧ G.At W gp 101 (plnC p (.slice A p.trigs.length cap))) (by kernel_rfl) hS (fun _ => ?_)
   change wpAnyH _ _ _ _ _ 16 #[false, false, false, false, false, false, false, false, false, false, false, false, false, false, false, false] _ (World.drew _)
   refine tk 0 (.agg (plnC p (.slice A p.trigs.length cap))) rfl (.inl ⟨by rfl, fun W hW => (hel_load rfl rfl hW.2.2.2 Tryz.underlying101 rfl (by kernel_rfl))⟩) hS ?_
   simp only [Act.put, tkS]
   refine tq 1 (.slice (some ⟨b1, 0, none⟩) 3 cap1) rfl (fun W hW => ?_) hS ?_
   ·obtain ⟨z0, z1, z2, z3⟩ := hW; go_simp
   simp only [Act.put, tkS]
   refine tq 2 (.pointer (some ⟨b1, 0, none⟩)) rfl (fun W hW => ?_) hS ?_
   ·obtain ⟨z0, z1, z2, z3⟩ := hW; go_simp
   simp only [Act.put, tkS]
   refine tq 3 (.int .i64 a) rfl (fun W hW => ?_) hS ?_
   ·obtain ⟨z0, z1, z2, z3⟩ := hW; go_simp
   simp only [Act.put, tkS]
   refine tq 4 (.slice (some ⟨b1, 0, none⟩) 3 cap1) rfl (fun W hW => ?_) hS ?_
   ·obtain ⟨z0, z1, z2, z3⟩ := hW; go_simp
   simp only [Act.put, tkS]
   refine tq 5 (.pointer (some ⟨b1, 1, none⟩)) rfl (fun W hW => ?_) hS ?_
   ·obtain ⟨z0, z1, z2, z3⟩ := hW; go_simp
   simp only [Act.put, tkS]
   refine tq 6 (.int .i64 b) rfl (fun W hW => ?_) hS ?_
   ·obtain ⟨z0, z1, z2, z3⟩ := hW; go_simp
   simp only [Act.put, tkS]
   refine tq 7 (.slice (some ⟨b1, 0, none⟩) 3 cap1) rfl (fun W hW => ?_) hS ?_
   ·obtain ⟨z0, z1, z2, z3⟩ := hW; go_simp
   simp only [Act.put, tkS]
   refine tq 8 (.pointer (some ⟨b1, 2, none⟩)) rfl (fun W hW => ?_) hS ?_
   ·obtain ⟨z0, z1, z2, z3⟩ := hW; go_simp
   simp only [Act.put, tkS]
   refine tq 9 (.int .i64 c) rfl (fun W hW => ?_) hS ?_
   ·obtain ⟨z0, z1, z2, z3⟩ := hW; go_simp
   simp only [Act.put, tkS]
   refine wpAnyH_ready (rs := [10]) (by kernel_rfl) (by simp) (AllReadyH.cons rfl (fun K hK => ?_) AllReadyH.nil)
   go_simp
   refine (HNw.u _ (HL3.u.below (Below.refl _ W3).drew (Nat.le_refl _))).mono ?_
   rintro e w6 hN
   cases hN with
   | bad _ E heq hne hb6 =>
    have hb6 := hel_dr hb6
    have HB6 := J (HBw.u.trans (hb6.mono HBw.u.size))
    have hS6 : w6.cell? ⟨b1, 0, none⟩ = some (.int .i64 a) ∧ w6.cell? ⟨b1, 1, none⟩ = some (.int .i64 b) ∧ w6.cell? ⟨b1, 2, none⟩ = some (.int .i64 c) ∧ G.At w6 gp 101 (plnC p (.slice A p.trigs.length cap)) := ⟨cell_b d0 hb6, cell_b d1 hb6, cell_b d2 hb6, HA3.u.below hb6 HA3.u.inside⟩
    have HF := J (madeA_new (b := b) HOk.u HK.u rfl HArg.u.1 HArg.u.2.2 heq hne)
    have HCk := J (fun W => check_err hne W)
    have hxe : (E == 0) = false := by simpa using hne
    clear hne heq
    clear hb6
    go_wp2_with fail
    refine hK.out _ _ hS6 (fun _ => ?_)
    clear hK K
    refine tq 11 (.tuple #[.pointer none, .int .i64 E]) rfl (fun W hW => ?_) hS6 ?_
    ·obtain ⟨z0, z1, z2, z3⟩ := hW; go_simp
    simp only [Act.put, tkS]
    refine tq 12 (.pointer none) rfl (fun W hW => ?_) hS6 ?_
    ·obtain ⟨z0, z1, z2, z3⟩ := hW; go_simp
    simp only [Act.put, tkS]
    refine tq 13 (.int .i64 E) rfl (fun W hW => ?_) hS6 ?_
    ·obtain ⟨z0, z1, z2, z3⟩ := hW; go_simp
    simp only [Act.put, tkS]
    refine tq 14 (.pointer none) rfl (fun W hW => ?_) hS6 ?_
    ·obtain ⟨z0, z1, z2, z3⟩ := hW; go_simp
    simp only [Act.put, tkS]
    refine tq 15 (.int .i64 E) rfl (fun W hW => ?_) hS6 ?_
    ·obtain ⟨z0, z1, z2, z3⟩ := hW; go_simp
    simp only [Act.put, tkS]
    clear hS hS6 d0 d1 d2 HA3 HNw
    refine wpAnyH_done (by kernel_rfl) ?_ _
    go_wp2_with fail
    refine (HCk.u _).mono ?_
    rintro e w9 ⟨v9, rfl, he, hb9⟩
    have HG := J (show DkPost R w g (madeA d ws) (.returned (.tuple #[.string ⟨#[]⟩, v9])) w9 from by rw [HF.u]; exact DkPost.of HD.u ⟨ans_fault he, HB6.u.trans (hb9.mono HB6.u.size)⟩)
    obtain ⟨bf, rfl, _⟩ := he
    clear hb9
    go_wp2_with fail
    go_ret2
    exact HG.u
   | good _ q heq hn hok6 hb6 =>
    have hb6 := hel_dr hb6
    have HB6 := J (HBw.u.trans (hb6.mono HBw.u.size))
    have hS6 : w6.cell? ⟨b1, 0, none⟩ = some (.int .i64 a) ∧ w6.cell? ⟨b1, 1, none⟩ = some (.int .i64 b) ∧ w6.cell? ⟨b1, 2, none⟩ = some (.int .i64 c) ∧ G.At w6 gp 101 (plnC p (.slice A p.trigs.length cap)) := ⟨cell_b d0 hb6, cell_b d1 hb6, cell_b d2 hb6, HA3.u.below hb6 HA3.u.inside⟩
    have hgl : g < w.heap.size := by obtain ⟨wp2, hat2, _⟩ := HD.u.ex; exact hat2.inside
    have HF := J (madeA_is HOk.u HK.u rfl HArg.u.1 HArg.u.2.1 HArg.u.2.2 heq)
    have HD6 := J (HD.u.below HB6.u)
    have HW6 := J (show WoN (fun b => R b ∨ b = g) w6 q (newWo p a b c) from hn.mono fun x hx => by
     have h1 := HBw.u.size
     show x < W3.heap.size
     rcases hx with hx | hx
     ·have := (HD.u.lim x hx).1; omega
     subst hx; omega)
    obtain ⟨wp6, hat6, _⟩ := HD6.u.ex
    have e1 := hat6.here (i := 1) rfl
    have f1 := hat6.soft 1
    clear heq hn hok6 hgl hat6
    clear hb6
    go_wp2_with fail
    refine hK.out _ _ hS6 (fun _ => ?_)
    clear hK K
    refine tq 11 (.tuple #[.pointer (some ⟨q.g, 0, none⟩), .int .i64 0]) rfl (fun W hW => ?_) hS6 ?_
    ·obtain ⟨z0, z1, z2, z3⟩ := hW; go_simp
    simp only [Act.put, tkS]
    refine tq 12 (.pointer (some ⟨q.g, 0, none⟩)) rfl (fun W hW => ?_) hS6 ?_
    ·obtain ⟨z0, z1, z2, z3⟩ := hW; go_simp
    simp only [Act.put, tkS]
    refine tq 13 (.int .i64 0) rfl (fun W hW => ?_) hS6 ?_
    ·obtain ⟨z0, z1, z2, z3⟩ := hW; go_simp
    simp only [Act.put, tkS]
    refine tq 14 (.pointer (some ⟨q.g, 0, none⟩)) rfl (fun W hW => ?_) hS6 ?_
    ·obtain ⟨z0, z1, z2, z3⟩ := hW; go_simp
    simp only [Act.put, tkS]
    refine tq 15 (.int .i64 0) rfl (fun W hW => ?_) hS6 ?_
    ·obtain ⟨z0, z1, z2, z3⟩ := hW; go_simp
    simp only [Act.put, tkS]
    clear hS hS6 d0 d1 d2 HA3 HNw
    refine wpAnyH_done (by kernel_rfl) ?_ _
    go_wp2_with fail
    go_ret2
    rw [HF.u]
    exact ⟨rfl, (HD6.u.world HW6.u).1, (chgR_below HB6.u).trans (HD6.u.world HW6.u).2⟩
  have hxb : (X == 0) = false := by simpa using hx
  have HF := J (madeA_bad HOk.u HK.u hx)
  have HCk := J (fun W => checkAt_err (k := k) hx W)
  clear hx HK HFew HL3 HC
  go_wp2_with fail
  refine (HCk.u _).mono ?_
  rintro e w9 ⟨v9, rfl, he, hb9⟩
  have HG := J (show DkPost R w g (madeA d ws) (.returned (.tuple #[.string ⟨#[]⟩, v9])) w9 from by rw [HF.u]; exact DkPost.of HD.u ⟨ans_fault he, HBw.u.trans (hb9.mono HBw.u.size)⟩)
  obtain ⟨bf, rfl, _⟩ := he
  clear hb9
  go_wp2_with fail
  go_ret2
  exact HG.u
open Go.RowKit
theorem TRun.drew {xs : List ByteArray} {w wr : World} {k : Nat} {v : Value} (h : TRun xs w wr k v) : TRun xs w wr.drew k v := ⟨h.row.drew, h.bel.drew⟩
theorem TRun.alloc {xs : List ByteArray} {w wr : World} {k : Nat} {v : Value} (h : TRun xs w wr k v) (o : Obj) : TRun xs w (wr.alloc o) k v := h.below ((Below.refl _ wr).alloc (Nat.le_refl _) o)
theorem pow_alloc {w : World} (h : PowTab w) (o : Obj) : PowTab (w.alloc o) := h.below ((Below.refl _ w).alloc (Nat.le_refl _) o)
theorem pow_drew {w : World} (h : PowTab w) : PowTab w.drew := h.below (Below.refl _ w).drew
theorem joinM {b : Nat} {xs : List ByteArray} {W : World} (h : WdsAt W b 0 xs) (n cap : Nat) (hn : xs.length = n) (hc : n ≤ cap) (hm : ∀ x ∈ xs, x.size ≤ 1000) (hl : xs.length ≤ 100000000) :
  Calls Tryz.prog 51 #[.slice (some ⟨b, 0, none⟩) n cap, .string ⟨#[32]⟩] W fun e w' => e = .returned (.string (G.joinB 32 xs)) ∧ Below W.heap.size W w' := by
 subst hn
 refine (Tryz.strings_Join b 0 cap xs ⟨#[32]⟩ W (fun j x hj => h.cell j x hj) h.lt (by omega) hc ?_).mono fun _ _ q => q
 have h1 := G.joinB_size 32 (l := xs) (k := 1000) hm
 have h2 : (G.joinB 32 xs).size = (Lib.join (xs.map (·.data.toList)) [32]).length := by rw [G.ba_size]; show (List.toArray _).toList.length = _; rw [List.toList_toArray]
 show (Lib.join (xs.map (·.data.toList)) [32]).length ≤ _
 have h3 : (1000 + 1) * xs.length ≤ (1000 + 1) * 100000000 := Nat.mul_le_mul_left _ hl
 omega
theorem own_apart {S S' : Nat → Prop} {w : World} {T T' : TypeId} {k k' : Nat} {v v' : Value} {n n' : Nat} {xs xs' : List Value} (h : G.OwnRow S w T k v n xs) (h' : G.OwnRow S' w T' k' v' n' xs') (hne : T ≠ T') : ∀ b, v.ownBlock = some b → v'.ownBlock ≠ some b := by
 intro b hb hb'
 have h1 := h.owns; have h2 := h'.owns
 rcases h1.2 with ⟨rfl, _⟩ | ⟨g, cap, cur, rfl, _, hg, _⟩
 ·cases hb
 rcases h2.2 with ⟨rfl, _⟩ | ⟨g', cap', cur', rfl, _, hg', _⟩
 ·cases hb'
 cases hb; cases hb'
 rw [hg] at hg'
 injection hg' with e; injection e with e1 e2; exact hne e2
theorem own_grown {S : Nat → Prop} {w w' : World} {T : TypeId} {k : Nat} {v : Value} {n : Nat} {xs : List Value} {row : Option Nat} (h : G.OwnRow S w T k v n xs) (hg : w.grownBy w' row) (hne : ∀ b, v.ownBlock = some b → row ≠ some b) : G.OwnRow S w' T k v n xs := by
 have h1 := G.OwnRow.of_owns (S := fun b => S b ∧ v.ownBlock = some b) h.owns (fun g hg => ⟨(h.block g hg).1, hg⟩)
 exact (h1.chg ((G.Chg.refl (fun b => row = some b) w).grown hg fun g e => .inl e) fun g hg2 e => hne g hg2.2 e).mono fun _ _ hg => hg.1
theorem pod_cells {S : Nat → Prop} {w : World} {v : Value} {l : List G.Pod} (h : G.OwnRow S w 177 3 v l.length (l.flatMap G.Pod.enc)) {k : Nat} {r : G.Pod} (hk : l[k]? = some r) :
  ∃ b cap, v = .slice (some ⟨b, 0, none⟩) l.length cap ∧ b < w.heap.size ∧ w.cell? ⟨b, k * 3, none⟩ = some (.int .i64 r.id) ∧ w.cell? ⟨b, k * 3 + 1, none⟩ = some (.int .i64 r.state) ∧ w.cell? ⟨b, k * 3 + 2, none⟩ = some (.int .i64 r.load) := by
 obtain ⟨b, cap, e, hS, h1, h2, h3⟩ := h.form (by have := G.get_lt hk; omega)
 exact ⟨b, cap, e, h3.inside, h3.cell (G.flat_get (j := 0) G.Pod.enc_length hk rfl), h3.cell (G.flat_get (j := 1) G.Pod.enc_length hk rfl), h3.cell (G.flat_get (j := 2) G.Pod.enc_length hk rfl)⟩
theorem intS {x : Int} (h : -10000000000000 ≤ x ∧ x ≤ 10000000000000) : IntW x := ⟨by omega, by omega⟩
def StrPost (s : ByteArray) (w : World) (e : Ending) (w' : World) : Prop := e = .returned (.string s) ∧ Below w.heap.size w w'
structure Joins (xs : List ByteArray) (J : ByteArray) : Prop where
 e : G.joinB 32 xs = J
 sml : ∀ x ∈ xs, x.size ≤ 1000
 few : xs.length ≤ 100000000
theorem asks_req {m : Wo} {j : Nat} (h : m.ok j) (hr : m.rng) : (∀ r ∈ m.b, 0 ≤ r.source ∧ r.source ≤ 10 ∧ 0 ≤ r.fate ∧ r.fate ≤ 10) ∧ m.b.length ≤ 200 := ⟨fun r h2 => hr.2 r h2, h.bn⟩
theorem state_now {m : Wo} {j : Nat} (h : m.ok j) (hr : m.rng) : IntW m.now := ⟨by have := h.now0; have := h.now1; omega, by have := h.now0; have := h.now1; omega⟩
theorem state_tgt {m : Wo} {j : Nat} (h : m.ok j) (hr : m.rng) : IntW m.target := ⟨by have := hr.1; omega, by have := hr.1; omega⟩
theorem deskAsks {R : Nat → Prop} {g : Nat} {t : ByteArray} {m : Wo} {q : Wp} {j : Nat} (w : World) (hat : G.At w g 32 #[.string t, .pointer (some ⟨q.g, 0, none⟩)]) (hn : WoN R w q m) (hk : m.ok j) (hr : m.rng) (hT : PowTab w) :
  Calls Tryz.prog 59 #[.pointer (some ⟨g, 0, none⟩)] w (StrPost (asksT m) w) := by
 have c1 := hat.here (i := 1) rfl
 have HN := J hn
 have HT0 := J hT
 have HRq := J (asks_req hk hr)
 obtain ⟨i0', hi, hz0, hz1, hz2⟩ := info_split info_text
 obtain ⟨xs, hxs⟩ : ∃ xs, m.b.map reqTxt = xs := ⟨_, rfl⟩
 have HXs := J (show (∀ i r, m.b[i]? = some r → xs[i]? = some (reqTxt r)) ∧ xs.length = m.b.length from ⟨fun i r h => by rw [← hxs, List.getElem?_map, h]; rfl, by rw [← hxs, List.length_map]⟩)
 have HJs := J (show Joins xs (G.joinB 32 xs) from ⟨rfl, fun x hx => by
  rw [← hxs] at hx
  obtain ⟨r, hr, rfl⟩ := List.mem_map.1 hx
  have := req_in (HRq.u.1 r hr); omega, by rw [← hxs, List.length_map]; have := HRq.u.2; omega⟩)
 have HF := J (show asksT m = if m.b = [] then dkNone else G.joinB 32 xs by rw [← hxs]; rfl)
 clear hat hn hk hr hT hxs
 go_enter Tryz.func59, Tryz.ntmps59
 go_wp2_with fail
 refine (woReqsOf HN.u).mono ?_
 rintro e w2 ⟨v, rfl, ho, hb⟩
 obtain ⟨A, cap, rfl, _, _, _⟩ := ho.slice
 have HO := J ho; have HB := J hb
 have HP2 := J (HT0.u.below hb)
 have hlen : (m.b.length : Int) ≤ 1000 := by have := HRq.u.2; omega
 clear c1 ho hb HN HT0
 go_wp2_with fail
 go_loopw [3, 12] (fun o i wr => ∃ k : Nat, k ≤ m.b.length ∧ i = .int .i64 k ∧ Hid (TRun xs w2 wr k o)) (fun _ i _ => m.b.length - (intOf i).toNat)
 case atStart => exact ⟨0, by omega, rfl, J ⟨G.OwnRow.nil _ _ _ _, Below.refl _ _⟩⟩
 obtain ⟨k, hk, rfl, HR⟩ := hrel
 obtain ⟨A2, cap2, rfl, _, _, _⟩ := HR.u.row.slice
 by_cases hlt : k < m.b.length
 ·obtain ⟨r, hr⟩ := G.get_some m.b hlt
  obtain ⟨b, cap', e, hbl, c0, c1, c2, c3, c4⟩ := req_cells HO.u hr
  obtain ⟨rfl, _, rfl⟩ := slice_eq e
  have c0 := cell_b c0 HR.u.bel; have c1 := cell_b c1 HR.u.bel; have c2 := cell_b c2 HR.u.bel; have c3 := cell_b c3 HR.u.bel; have c4 := cell_b c4 HR.u.bel
  have k0 : (0 : Int) ≤ (k : Int) := by omega
  have k1 : (k : Int) < (m.b.length : Int) := by omega
  have hX := HXs.u.1 k r hr
  have hri := HRq.u.1 r (List.mem_of_getElem? hr)
  have HI0 := J (show IntW r.source from intS ⟨by omega, by omega⟩)
  have HI1 := J (show IntW r.fate from intS ⟨by omega, by omega⟩)
  have HI2 := HI1
  have hs0 := itoS r.source ⟨by omega, by omega⟩
  have hs1 := itoS r.fate ⟨by omega, by omega⟩
  have hone : (⟨#[58]⟩ : ByteArray).size = 1 := rfl
  have z1 : ¬ 9223372036854775807 < (G.itoB r.source).size + 1 := by omega
  have z2 : ¬ 9223372036854775807 < (G.itoB r.source).size + 1 + (G.itoB r.fate).size := by omega
  obtain ⟨X, hXe⟩ : ∃ X, G.itoB r.source ++ ⟨#[58]⟩ ++ G.itoB r.fate = X := ⟨_, rfl⟩
  have HX := J (show xs[k]? = some X by rw [hX, ← hXe]; rfl)
  have hm3 := J (show k + 1 ≤ maxLen by have := HRq.u.2; simp only [maxLen]; omega)
  have hm4 := J (show (k + 1) * 16 ≤ 140737488355328 by have := HRq.u.2; omega)
  have HLt := J hlt
  have HA0 := J (G.At.made wr 181 #[.int .i64 r.id, .int .i64 r.source, .int .i64 r.till, .int .i64 r.fate, .int .i64 r.pod])
  have HT0 := J (HR.u.alloc (.cells #[.int .i64 r.id, .int .i64 r.source, .int .i64 r.till, .int .i64 r.fate, .int .i64 r.pod] 181))
  have HP0 := J (pow_alloc (HP2.u.below HR.u.bel) (.cells #[.int .i64 r.id, .int .i64 r.source, .int .i64 r.till, .int .i64 r.fate, .int .i64 r.pod] 181))
  clear hr e hbl hX hri hs0 hs1 hone HR
  go_upto_region 5 with fail
  generalize wr.alloc (.cells #[.int .i64 r.id, .int .i64 r.source, .int .i64 r.till, .int .i64 r.fate, .int .i64 r.pod] 181) = w5 at HA0 HT0 HP0 ⊢
  obtain ⟨gr, hgr⟩ : ∃ gr, wr.heap.size = gr := ⟨_, rfl⟩
  rw [hgr] at HA0 ⊢
  have HA := J HA0.u.drew; have HT := J HT0.u.drew; have HPw := J (pow_drew HP0.u)
  clear c0 c1 c2 c3 c4 hgr HA0 HT0 HP0
  go_region_held3 (fun W => W.cell? ⟨gr, 1, none⟩ = some (.int .i64 r.source) ∧ W.cell? ⟨gr, 3, none⟩ = some (.int .i64 r.fate)) (first | exact ⟨HA.u.here (i := 1) rfl, HA.u.here (i := 3) rfl⟩ | exact ⟨(HA.u.alloc _).here (i := 1) rfl, (HA.u.alloc _).here (i := 3) rfl⟩) (first | (go_at_call 26; refine (itoaAny _ (by first | exact HI0.u | exact HI1.u | exact HI2.u) _ HPw.u).mono ?_; rintro e w8 ⟨rfl, hb8⟩; have HT := J (HT.u.below hb8); have HPw := J (HPw.u.below hb8); have HA := J (HA.u.below hb8 HA.u.inside); clear hb8) | (refine step_append_lies _ rfl (.tmp 16) (.tmp 25) 23 rfl 0 9 i0' (.string ByteArray.empty) 1 16 Tryz.underlying23 hi hz0 hz1 hz2 rfl (by decide) (.slice A2 k cap2) _ _ rfl (HT.u.row.alloc _).owns ⟨_, 0, none⟩ 1 1 [.string X] rfl rfl (G.new_cells _ _ _) (by simp [Value.oneCell']) (by decide) hm3.u hm4.u (Nat.zero_le _) _ rfl ?_; intro b9 cap9 w9 hown hg ho hlt9; have HN := J (HT.u.next HX.u hown hg (by (rcases ho with e | e); exact .inl e.symm; exact .inr (congrArg some (e.trans (by simp))))); have HA := J ((HA.u.alloc _).grown hg fun e => HT.u.row.apartAt HA.u (by decide) _ e rfl); clear hown hg ho hlt9))
  all_goals (go_wp2_with fail)
  all_goals go_roundw
  all_goals first | (case rel => exact ⟨k + 1, by have := HLt.u; omega, by go_num, HN⟩) | (case measure => (have := HLt.u; simp [intOf]; omega))
 obtain rfl : k = m.b.length := by omega
 by_cases he : m.b = []
 ·have hz : ((m.b.length : Int) == 0) = true := by rw [he]; rfl
  have HG := J (show asksT m = ⟨#[110, 111, 110, 101]⟩ by rw [HF.u, if_pos he]; rfl)
  have HBf := J (show StrPost (asksT m) w (.returned (.string ⟨#[110, 111, 110, 101]⟩)) wr from ⟨by rw [HG.u], HB.u.trans (HR.u.bel.mono HB.u.size)⟩)
  clear he hlt hk HR
  go_wp2_with fail
  go_ret
  exact HBf.u
 have hp : 0 < m.b.length := List.length_pos_iff.2 he
 have hz : ((m.b.length : Int) == 0) = false := by simp; exact he
 have hrun := HR.u
 rw [← HXs.u.2] at hrun
 obtain ⟨b8, cap8, hv8, hc8, hW8⟩ := hrun.wds (by rw [HXs.u.2]; exact hp)
 rw [HXs.u.2] at hv8 hc8
 cases hv8
 have HJ := J (joinM hW8 m.b.length cap2 HXs.u.2 hc8 HJs.u.sml HJs.u.few)
 have HG := J (show asksT m = G.joinB 32 xs by rw [HF.u, if_neg he])
 have HBf := J (HB.u.trans (HR.u.bel.mono HB.u.size))
 clear he hlt hk HR hrun hW8 hc8 hp
 go_wp2_with fail
 refine HJ.u.mono ?_
 rintro e w7 ⟨rfl, hb7⟩
 have HBg := J (show StrPost (asksT m) w (.returned (.string (G.joinB 32 xs))) w7 from ⟨by rw [HG.u], HBf.u.trans (hb7.mono HBf.u.size)⟩)
 clear hb7
 go_wp2_with fail
 go_ret
 exact HBg.u
theorem deskState {R : Nat → Prop} {g : Nat} {t : ByteArray} {m : Wo} {q : Wp} {j : Nat} (w : World) (hat : G.At w g 32 #[.string t, .pointer (some ⟨q.g, 0, none⟩)]) (hn : WoN R w q m) (hk : m.ok j) (hr : m.rng) (hj : j ≤ 284000) (hT : PowTab w) :
  Calls Tryz.prog 58 #[.pointer (some ⟨g, 0, none⟩)] w (StrPost (stateT m) w) := by
 have c1 := hat.here (i := 1) rfl
 have hsw := state_words hk hr hj
 obtain ⟨i0', hi, hz0, hz1, hz2⟩ := info_split info_text
 obtain ⟨xs, hxs⟩ : ∃ xs, G.itoB m.now :: G.itoB m.target :: m.f.map podTxt = xs := ⟨_, rfl⟩
 have HXs := J (show (∀ i r, m.f[i]? = some r → xs[i + 2]? = some (podTxt r)) ∧ xs.length = m.f.length + 2 from ⟨fun i r h => by rw [← hxs]; show (m.f.map podTxt)[i]? = _; rw [List.getElem?_map, h]; rfl, by rw [← hxs]; simp⟩)
 have HX2 := J (show (xs.map Value.string).take 2 = [.string (G.itoB m.now), .string (G.itoB m.target)] by rw [← hxs]; rfl)
 rw [hxs] at hsw
 have HJs := J (show Joins xs (G.joinB 32 xs) from ⟨rfl, fun x hx => by have := hsw.1 x hx; omega, by have := hsw.2; omega⟩)
 have HF := J (show stateT m = G.joinB 32 xs by rw [← hxs]; rfl)
 have hmany : m.f.length ≤ 14200000 := by have := hsw.2; have := HXs.u.2; omega
 have HMy := J hmany
 have hmany2 : (m.f.length : Int) ≤ 14200000 := by omega
 have HPd := J (pods_in hk hj)
 have HI0 := J (state_now hk hr)
 have HI1 := J (state_tgt hk hr)
 have HI2 := HI1
 have HA := J hat.drew; have HN := J hn.drew; have HPw := J (pow_drew hT); have HB := J (Below.refl w.heap.size w).drew
 have HPz := J hT
 clear hat hn hk hr hj hT hxs hsw hmany
 go_enter Tryz.func58, Tryz.ntmps58
 go_upto_region 1 with fail
 go_cut [3] (fun v wx => ∃ w1 b1, wx = w1 ∧ v = .slice (some ⟨b1, 0, none⟩) 2 2 ∧ Hid (TRun xs w w1 2 v) ∧ Hid (G.At w1 g 32 #[.string t, .pointer (some ⟨q.g, 0, none⟩)]) ∧ Hid (WoN R w1 q m))
 case first =>
  go_region_held3 (fun W => W.cell? ⟨g, 1, none⟩ = some (.pointer (some ⟨q.g, 0, none⟩))) (first | exact HA.u.here (i := 1) rfl | exact (HA.u.alloc _).here (i := 1) rfl) (first | (go_at_call 85; refine (woNow HN.u).mono ?_; rintro e w8 ⟨rfl, rfl⟩) | (go_at_call 86; refine (woTarget HN.u).mono ?_; rintro e w8 ⟨rfl, rfl⟩) | (go_at_call 26; refine (itoaAny _ (by first | exact HI0.u | exact HI1.u) _ HPw.u).mono ?_; rintro e w8 ⟨rfl, hb8⟩; have HN := J (HN.u.below hb8); have HPw := J (HPw.u.below hb8); have HA := J (HA.u.below hb8 HA.u.inside); have HB := J (HB.u.trans (hb8.mono HB.u.size)); clear hb8))
  all_goals (go_wp2_with fail)
  all_goals go_meet
  all_goals exact ⟨_, _, rfl, rfl, J ⟨by
   rw [HX2.u]
   exact ⟨rfl, .inr ⟨_, 2, rfl, HB.u.size, Nat.le_refl _, by decide, _, G.At.made _ _ _, rfl, Nat.le_refl _, rfl⟩⟩, HB.u.alloc HB.u.size _⟩, J (HA.u.alloc _), J (HN.u.alloc _)⟩
 obtain ⟨w1, b1, rfl, rfl, HT1, HA1, HN1⟩ := hcut
 have c1 := HA1.u.here (i := 1) rfl
 clear HA HN HPw HB
 go_wp2_with fail
 refine (woPodsOf HN1.u).mono ?_
 rintro e w2 ⟨v, rfl, ho, hb⟩
 obtain ⟨A, cap, rfl, _, _, _⟩ := ho.slice
 have HO := J ho
 have HT2 := J (HT1.u.below hb)
 clear c1 ho hb HT1 HA1 HN1
 go_wp2_with fail
 go_loopw [3, 25] (fun o i wr => ∃ k : Nat, k ≤ m.f.length ∧ i = .int .i64 k ∧ Hid (TRun xs w wr (k + 2) o) ∧ Hid (G.OwnRow (fun _ => True) wr 177 3 (.slice A m.f.length cap) m.f.length (m.f.flatMap G.Pod.enc))) (fun _ i _ => m.f.length - (intOf i).toNat)
 case atStart => exact ⟨0, by omega, rfl, HT2, J (HO.u.mono fun _ _ _ => trivial)⟩
 clear HT2 HO
 obtain ⟨k, hk, rfl, HR, HO⟩ := hrel
 obtain ⟨A2, cap2, rfl, _, _, _⟩ := HR.u.row.slice
 by_cases hlt : k < m.f.length
 ·obtain ⟨r, hr⟩ := G.get_some m.f hlt
  obtain ⟨b, cap', e, hbl, c0, c1, c2⟩ := pod_cells HO.u hr
  obtain ⟨rfl, _, rfl⟩ := slice_eq e
  have k0 : (0 : Int) ≤ (k : Int) := by omega
  have k1 : (k : Int) < (m.f.length : Int) := by omega
  have hX := HXs.u.1 k r hr
  have hri := HPd.u r (List.mem_of_getElem? hr)
  have HI0 := J (intS hri.1)
  have HI1 := J (intS hri.2.1)
  have HI2 := J (intS hri.2.2)
  have hs0 := itoS r.id hri.1
  have hs1 := itoS r.state hri.2.1
  have hs2 := itoS r.load hri.2.2
  have hone : (⟨#[58]⟩ : ByteArray).size = 1 := rfl
  have z1 : ¬ 9223372036854775807 < (G.itoB r.id).size + 1 := by omega
  have z2 : ¬ 9223372036854775807 < (G.itoB r.id).size + 1 + (G.itoB r.state).size := by omega
  have z3 : ¬ 9223372036854775807 < (G.itoB r.id).size + 1 + (G.itoB r.state).size + 1 := by omega
  have z4 : ¬ 9223372036854775807 < (G.itoB r.id).size + 1 + (G.itoB r.state).size + 1 + (G.itoB r.load).size := by omega
  obtain ⟨X, hXe⟩ : ∃ X, G.itoB r.id ++ ⟨#[58]⟩ ++ G.itoB r.state ++ ⟨#[58]⟩ ++ G.itoB r.load = X := ⟨_, rfl⟩
  have HX := J (show xs[k + 2]? = some X by rw [hX, ← hXe]; rfl)
  have hm3 := J (show k + 2 + 1 ≤ maxLen by have := HMy.u; simp only [maxLen]; omega)
  have hm4 := J (show (k + 2 + 1) * 16 ≤ 140737488355328 by have := HMy.u; omega)
  have HLt := J hlt
  have HA0 := J (G.At.made wr 177 #[.int .i64 r.id, .int .i64 r.state, .int .i64 r.load])
  have HT0 := J (HR.u.alloc (.cells #[.int .i64 r.id, .int .i64 r.state, .int .i64 r.load] 177))
  have HO0 := J (HO.u.alloc (.cells #[.int .i64 r.id, .int .i64 r.state, .int .i64 r.load] 177))
  have HP0 := J (pow_alloc (HPz.u.below HR.u.bel) (.cells #[.int .i64 r.id, .int .i64 r.state, .int .i64 r.load] 177))
  clear hr e hbl hX hri hs0 hs1 hs2 hone HR HO
  go_upto_region 5 with fail
  generalize wr.alloc (.cells #[.int .i64 r.id, .int .i64 r.state, .int .i64 r.load] 177) = w5 at HA0 HT0 HO0 HP0 ⊢
  obtain ⟨gr, hgr⟩ : ∃ gr, wr.heap.size = gr := ⟨_, rfl⟩
  rw [hgr] at HA0 ⊢
  have HA := J HA0.u.drew; have HT := J HT0.u.drew; have HO := J HO0.u.drew; have HPw := J (pow_drew HP0.u)
  clear c0 c1 c2 hgr HA0 HT0 HO0 HP0
  go_region_held3 (fun W => W.cell? ⟨gr, 0, none⟩ = some (.int .i64 r.id) ∧ W.cell? ⟨gr, 1, none⟩ = some (.int .i64 r.state) ∧ W.cell? ⟨gr, 2, none⟩ = some (.int .i64 r.load)) (first | exact ⟨HA.u.here (i := 0) rfl, HA.u.here (i := 1) rfl, HA.u.here (i := 2) rfl⟩ | exact ⟨(HA.u.alloc _).here (i := 0) rfl, (HA.u.alloc _).here (i := 1) rfl, (HA.u.alloc _).here (i := 2) rfl⟩) (first | (go_at_call 26; refine (itoaAny _ (by first | exact HI0.u | exact HI1.u | exact HI2.u) _ HPw.u).mono ?_; rintro e w8 ⟨rfl, hb8⟩; have HT := J (HT.u.below hb8); have HPw := J (HPw.u.below hb8); have HA := J (HA.u.below hb8 HA.u.inside); have HO := J (HO.u.below hb8 (Nat.le_refl _)); clear hb8) | (refine step_append_lies _ rfl (.tmp 29) (.tmp 43) 23 rfl 0 9 i0' (.string ByteArray.empty) 1 16 Tryz.underlying23 hi hz0 hz1 hz2 rfl (by decide) (.slice A2 (k + 2) cap2) _ _ rfl (HT.u.row.alloc _).owns ⟨_, 0, none⟩ 1 1 [.string X] rfl rfl (G.new_cells _ _ _) (by simp [Value.oneCell']) (by decide) hm3.u hm4.u (Nat.zero_le _) _ rfl ?_; intro b9 cap9 w9 hown hg ho hlt9; have HN := J (HT.u.next HX.u hown hg (by (rcases ho with e | e); exact .inl e.symm; exact .inr (congrArg some (e.trans (by simp))))); have hne9 : 177 ≠ 9 := (by decide); have ha9 := own_apart (HO.u.alloc _) (HT.u.row.alloc (.cells #[.string X] 9)) hne9; have HO := J (own_grown (HO.u.alloc _) hg ha9); have HA := J ((HA.u.alloc _).grown hg fun e => HT.u.row.apartAt HA.u (by decide) _ e rfl); clear hown hg ho hlt9))
  all_goals (go_wp2_with fail)
  all_goals go_roundw
  all_goals first | (case rel => exact ⟨k + 1, by have := HLt.u; omega, by go_num, HN, HO⟩) | (case measure => (have := HLt.u; simp [intOf]; omega))
 obtain rfl : k = m.f.length := by omega
 have hrun := HR.u
 rw [← HXs.u.2] at hrun
 obtain ⟨b8, cap8, hv8, hc8, hW8⟩ := hrun.wds (by rw [HXs.u.2]; omega)
 rw [HXs.u.2] at hv8 hc8
 cases hv8
 have HJ := J (joinM hW8 (m.f.length + 2) cap2 HXs.u.2 hc8 HJs.u.sml HJs.u.few)
 have HBf := J HR.u.bel
 clear hlt hk HR hrun hW8 hc8 HO
 go_wp2_with fail
 refine HJ.u.mono ?_
 rintro e w7 ⟨rfl, hb7⟩
 have HBg := J (show StrPost (stateT m) w (.returned (.string (G.joinB 32 xs))) w7 from ⟨by rw [HF.u], HBf.u.trans (hb7.mono HBf.u.size)⟩)
 clear hb7
 go_wp2_with fail
 go_ret
 exact HBg.u
end Go.Proofs.YtoidcbpcnikejaaGreatDoor
