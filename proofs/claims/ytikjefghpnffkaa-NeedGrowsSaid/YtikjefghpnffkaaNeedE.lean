/- The walk of NeedStays. -/
import Derived.Test.YtikjefghpnffkaaNeedD
namespace Go.Proofs.Ytikjefghpnffkaa
open Go.RowKit
set_option linter.unusedVariables false
theorem nums_one {w : World} {x : Int} {H : Nat} (hH : w.heap.size = H) : NumsIn (w.alloc (.cells #[.int .i64 x] 3)) (some ⟨H, 0, none⟩) [x] := fun _ => by
  subst hH
  refine ⟨w.heap.size, 0, rfl, by simp, fun i y hy => ?_⟩
  match i, hy with
  | 0, hy =>
    have e : x = y := by simpa using hy
    subst e
    exact (Tide.At.made w 3 #[.int .i64 x]).here rfl
theorem zero_fits : Cr.fits ⟨0, 0, 0, 0, 0, false, false⟩ := by unfold Cr.fits; decide
set_option maxRecDepth 1000000 in
theorem want_fact (P : Int) : wantR 2 100 2 10 false (Tide.metN 2 (Tide.spot [22]) 1) P = (2, 0) := by
  unfold wantR
  rw [if_neg (by decide), if_neg (by decide), if_pos (by decide +kernel)]
/-- what NeedStays asks -/
theorem stays_law (now tol kind target n P : Int) : (wantR now tol kind target false n P).1 = 0 ∧ (wantR now tol kind target false n P).2 = 1 ∨
    ∃ b1 b2 : Bool, (kind = 1 ∨ kind = 2) ∧ 1 ≤ target ∧ 0 ≤ now ∧ wantR now tol kind target false n P = (if b1 then now else P, 0) ∧ wantR now 1000 kind target false n P = (if b2 then now else P, 0) ∧ (b1 = true → b2 = true) := by
  unfold wantR
  by_cases h : (kind ≠ 1 ∧ kind ≠ 2) ∨ target < 1 ∨ now < 0 ∨ 50 < now ∨ tol < 0 ∨ 1000 < tol
  · left; rw [if_pos h]; exact ⟨rfl, rfl⟩
  · right
    generalize hD : max (Tide.subc n (Tide.mulc now target)) (Tide.subc (Tide.mulc now target) n) = D
    have hm := Tide.share_mono (a := Tide.mulc now target) (show tol ≤ 1000 by omega)
    refine ⟨decide (0 < now ∧ D ≤ Tide.sharec (Tide.mulc now target) tol), decide (0 < now ∧ D ≤ Tide.sharec (Tide.mulc now target) 1000), by omega, by omega, by omega, ?_, ?_, fun hb => ?_⟩
    · rw [if_neg h]; simp
    · rw [if_neg (by omega)]; simp
    · have h2 := of_decide_eq_true hb
      exact decide_eq_true ⟨h2.1, by omega⟩
set_option maxRecDepth 100000 in
set_option maxHeartbeats 6400000 in
theorem needStays_walk (ai ah ad am aw bi bh bd bm bw : Nat) (aa ab ba bb : Bool) (ha : Cr.fits ⟨ai, ah, ad, am, aw, aa, ab⟩) (hb : Cr.fits ⟨bi, bh, bd, bm, bw, ba, bb⟩) (now kind target act tol : Int) (A : Option Addr) (cap : Nat) (xs : List Int) (w : World) (hx : NumsIn w A xs) (hl : xs.length ≤ 9223372036854775807) : Calls Try.prog 11 #[.int .i64 now, .agg #[.int .i64 kind, .int .i64 target, .int .i64 act, .int .u64 (ai : Int), .int .u64 (ah : Int), .int .u64 (ad : Int), .int .u64 (am : Int), .int .u64 (aw : Int), .bool aa, .bool ab, .int .u64 (bi : Int), .int .u64 (bh : Int), .int .u64 (bd : Int), .int .u64 (bm : Int), .int .u64 (bw : Int), .bool ba, .bool bb], .slice A xs.length cap, .int .i64 tol] w fun e w' => e = .returned (.bool true) ∧ Below w.heap.size w w' := by
  have HB := Lib.hid (((Below.refl w.heap.size w).alloc (Nat.le_refl _) (.cells #[.int .i64 kind, .int .i64 target, .int .i64 act, .int .u64 (ai : Int), .int .u64 (ah : Int), .int .u64 (ad : Int), .int .u64 (am : Int), .int .u64 (aw : Int), .bool aa, .bool ab, .int .u64 (bi : Int), .int .u64 (bh : Int), .int .u64 (bd : Int), .int .u64 (bm : Int), .int .u64 (bw : Int), .bool ba, .bool bb] 50)).alloc (by simp) (.cells #[.int .i64 22] 3))
  have HT := Lib.hid ((Tide.At.made w 50 #[.int .i64 kind, .int .i64 target, .int .i64 act, .int .u64 (ai : Int), .int .u64 (ah : Int), .int .u64 (ad : Int), .int .u64 (am : Int), .int .u64 (aw : Int), .bool aa, .bool ab, .int .u64 (bi : Int), .int .u64 (bh : Int), .int .u64 (bd : Int), .int .u64 (bm : Int), .int .u64 (bw : Int), .bool ba, .bool bb]).alloc (.cells #[.int .i64 22] 3))
  have HN := Lib.hid (hx.below HB.out (Nat.le_refl _))
  have H1 := Lib.hid (nums_one (x := 22) (show (w.alloc (.cells #[.int .i64 kind, .int .i64 target, .int .i64 act, .int .u64 (ai : Int), .int .u64 (ah : Int), .int .u64 (ad : Int), .int .u64 (am : Int), .int .u64 (aw : Int), .bool aa, .bool ab, .int .u64 (bi : Int), .int .u64 (bh : Int), .int .u64 (bd : Int), .int .u64 (bm : Int), .int .u64 (bw : Int), .bool ba, .bool bb] 50)).heap.size = w.heap.size + 1 by simp))
  have HW0 := Lib.hid (fun (W : World) (hW : NumsIn W (some ⟨w.heap.size + 1, 0, none⟩) [22]) => needWant 0 0 0 0 0 0 0 0 0 0 false false false false zero_fits zero_fits 2 100 2 10 0 false (some ⟨w.heap.size + 1, 0, none⟩) 1 [22] W hW (by decide))
  have HW1 := Lib.hid (fun (W : World) (hW : NumsIn W A xs) => needWant ai ah ad am aw bi bh bd bm bw aa ab ba bb ha hb now tol kind target act false A cap xs W hW hl)
  have HW2 := Lib.hid (fun (W : World) (hW : NumsIn W A xs) => needWant ai ah ad am aw bi bh bd bm bw aa ab ba bb ha hb now 1000 kind target act false A cap xs W hW hl)
  have HO := Lib.hid (fun (W : World) (hW : NumsIn W A xs) => needOf ai ah ad am aw bi bh bd bm bw aa ab ba bb ha hb kind target act 0 0 false A cap xs W hW hl)
  have hlaw := stays_law now tol kind target (Tide.metN kind (Tide.spot xs) xs.length) (needR ⟨ai, ah, ad, am, aw, aa, ab⟩ ⟨bi, bh, bd, bm, bw, ba, bb⟩ kind target act 0 0 false (Tide.metN kind (Tide.spot xs) xs.length) ((Tide.metM kind (Tide.spot xs) xs.length : Nat) : Int)).1
  have HErr := Lib.hid (fun (hk : kind = 1 ∨ kind = 2) (ht : 1 ≤ target) => need_err (a := ⟨ai, ah, ad, am, aw, aa, ab⟩) (b := ⟨bi, bh, bd, bm, bw, ba, bb⟩) (act := act) (sec := 0) (shift := 0) (failed := false) (n := (Tide.metN kind (Tide.spot xs) xs.length)) (many := ((Tide.metM kind (Tide.spot xs) xs.length : Nat) : Int)) hk ht)
  clear hx ha hb hl
  obtain ⟨R, hR⟩ : ∃ R, (needR ⟨ai, ah, ad, am, aw, aa, ab⟩ ⟨bi, bh, bd, bm, bw, ba, bb⟩ kind target act 0 0 false (Tide.metN kind (Tide.spot xs) xs.length) ((Tide.metM kind (Tide.spot xs) xs.length : Nat) : Int)) = R := ⟨_, rfl⟩
  rw [hR] at HO HErr HW1 HW2 hlaw
  clear hR
  have HLaw := Lib.hid hlaw
  clear hlaw
  go_enter Try.func11, Try.ntmps11
  go_wp2_with fail
  refine (HW0.out _ H1.out).mono ?_
  rintro e w1 ⟨rfl, hb1⟩
  rw [show ([22] : List Int).length = 1 from rfl, want_fact]
  have HB1 := Lib.hid (HB.out.trans (hb1.mono HB.out.size))
  have HT1 := Lib.hid (HT.out.below hb1 HT.out.inside)
  have HN1 := Lib.hid (HN.out.below hb1 (Nat.le_refl _))
  clear hb1 HB HT HN H1 HW0
  have z0 := HT1.out.here (i := 0) rfl; have z1 := HT1.out.here (i := 1) rfl; have z2 := HT1.out.here (i := 2) rfl; have z3 := HT1.out.here (i := 3) rfl; have z4 := HT1.out.here (i := 4) rfl; have z5 := HT1.out.here (i := 5) rfl; have z6 := HT1.out.here (i := 6) rfl; have z7 := HT1.out.here (i := 7) rfl; have z8 := HT1.out.here (i := 8) rfl; have z9 := HT1.out.here (i := 9) rfl; have z10 := HT1.out.here (i := 10) rfl; have z11 := HT1.out.here (i := 11) rfl; have z12 := HT1.out.here (i := 12) rfl; have z13 := HT1.out.here (i := 13) rfl; have z14 := HT1.out.here (i := 14) rfl; have z15 := HT1.out.here (i := 15) rfl; have z16 := HT1.out.here (i := 16) rfl
  go_wp2_with fail
  refine (HW1.out _ HN1.out).mono ?_
  rintro e w2 ⟨rfl, hb2⟩
  have HB2 := Lib.hid (HB1.out.trans (hb2.mono HB1.out.size))
  have HT2 := Lib.hid (HT1.out.below hb2 HT1.out.inside)
  have HN2 := Lib.hid (HN1.out.below hb2 (Nat.le_refl _))
  clear hb2 z0 z1 z2 z3 z4 z5 z6 z7 z8 z9 z10 z11 z12 z13 z14 z15 z16 HB1 HT1 HN1 HW1
  have z0 := HT2.out.here (i := 0) rfl; have z1 := HT2.out.here (i := 1) rfl; have z2 := HT2.out.here (i := 2) rfl; have z3 := HT2.out.here (i := 3) rfl; have z4 := HT2.out.here (i := 4) rfl; have z5 := HT2.out.here (i := 5) rfl; have z6 := HT2.out.here (i := 6) rfl; have z7 := HT2.out.here (i := 7) rfl; have z8 := HT2.out.here (i := 8) rfl; have z9 := HT2.out.here (i := 9) rfl; have z10 := HT2.out.here (i := 10) rfl; have z11 := HT2.out.here (i := 11) rfl; have z12 := HT2.out.here (i := 12) rfl; have z13 := HT2.out.here (i := 13) rfl; have z14 := HT2.out.here (i := 14) rfl; have z15 := HT2.out.here (i := 15) rfl; have z16 := HT2.out.here (i := 16) rfl
  go_wp2_with fail
  refine (HO.out _ HN2.out).mono ?_
  rintro e w3 ⟨rfl, hb3⟩
  have HB3 := Lib.hid (HB2.out.trans (hb3.mono HB2.out.size))
  have HT3 := Lib.hid (HT2.out.below hb3 HT2.out.inside)
  have HN3 := Lib.hid (HN2.out.below hb3 (Nat.le_refl _))
  clear hb3 z0 z1 z2 z3 z4 z5 z6 z7 z8 z9 z10 z11 z12 z13 z14 z15 z16 HB2 HT2 HN2 HO
  go_upto_region 6 with fail
  have HB4 := Lib.hid (HB3.out.alloc HB3.out.size (.cells #[.int .i64 R.1, .bool R.2.1] 53))
  have HT4 := Lib.hid (HT3.out.alloc (.cells #[.int .i64 R.1, .bool R.2.1] 53))
  have HG4 := Lib.hid (Tide.At.made w3 53 #[.int .i64 R.1, .bool R.2.1])
  have HN4 := Lib.hid (HN3.out.below ((Below.refl w3.heap.size w3).alloc (Nat.le_refl _) (.cells #[.int .i64 R.1, .bool R.2.1] 53)) (Nat.le_refl _))
  generalize w3.alloc (.cells #[.int .i64 R.1, .bool R.2.1] 53) = W4 at HB4 HT4 HG4 HN4 ⊢
  generalize w3.heap.size = g at HG4 ⊢
  clear HB3 HT3 HN3
  rcases HLaw.out with ⟨e1, e2⟩ | ⟨b1, b2, hk, ht, hn, e1, e2, h12⟩
  · rw [e1, e2]
    clear e1 e2 HLaw
    go_wp2_with fail
    go_ret
    exact ⟨rfl, HB4.out⟩
  have hErr : R.2.2 = 0 := by rw [HErr.out hk ht]; rfl
  rw [e1, hErr]
  have E2 := Lib.hid e2
  have H12 := Lib.hid h12
  clear e1 e2 hk ht h12 hErr HErr HLaw
  have HE2 := HW2
  rw [E2.out] at HE2
  have HPost := Lib.hid HE2.out
  clear HE2 HW2 E2
  obtain ⟨P, hP⟩ : ∃ P, R.1 = P := ⟨_, rfl⟩
  rw [hP] at HG4 HPost ⊢
  clear hP
  have z0 := HT4.out.here (i := 0) rfl; have z1 := HT4.out.here (i := 1) rfl; have z2 := HT4.out.here (i := 2) rfl; have z3 := HT4.out.here (i := 3) rfl; have z4 := HT4.out.here (i := 4) rfl; have z5 := HT4.out.here (i := 5) rfl; have z6 := HT4.out.here (i := 6) rfl; have z7 := HT4.out.here (i := 7) rfl; have z8 := HT4.out.here (i := 8) rfl; have z9 := HT4.out.here (i := 9) rfl; have z10 := HT4.out.here (i := 10) rfl; have z11 := HT4.out.here (i := 11) rfl; have z12 := HT4.out.here (i := 12) rfl; have z13 := HT4.out.here (i := 13) rfl; have z14 := HT4.out.here (i := 14) rfl; have z15 := HT4.out.here (i := 15) rfl; have z16 := HT4.out.here (i := 16) rfl
  have y0 := HG4.out.here (i := 0) rfl
  have hcase : (P = now ∧ (P == now) = true) ∨ (P ≠ now ∧ (P == now) = false ∧ (now == P) = false) := by
    by_cases h : P = now
    · left; exact ⟨h, by simpa using h⟩
    · right; exact ⟨h, by simpa using h, by simpa using Ne.symm h⟩
  have hz : (now = 0 ∧ (now == 0) = true) ∨ (0 < now ∧ (now == 0) = false) := by
    by_cases h : now = 0
    · left; exact ⟨h, by simpa using h⟩
    · right; exact ⟨by omega, by simpa using h⟩
  clear hn
  rcases hcase with ⟨p1, p2⟩ | ⟨p1, p2, p3⟩
  · as_aux_lemma =>
    subst p1
    rw [show (if b1 = true then P else P) = P by split <;> rfl] at *
    rw [show (if b2 = true then P else P) = P by split <;> rfl] at HPost
    clear p2
    go_wp2_with fail
    refine (HPost.out _ HN4.out).mono ?_
    rintro e w5 ⟨rfl, hb5⟩
    have HB5 := Lib.hid (HB4.out.trans (hb5.mono HB4.out.size))
    have HG5 := Lib.hid (HG4.out.below hb5 HG4.out.inside)
    clear hb5 z0 z1 z2 z3 z4 z5 z6 z7 z8 z9 z10 z11 z12 z13 z14 z15 z16 y0
    have y0 := HG5.out.here (i := 0) rfl
    go_wp2_with fail
    all_goals
      go_ret
      exact ⟨rfl, HB5.out⟩
  · have p4 : ¬ now = P := Ne.symm p1
    cases b1 <;> cases b2
    case true.false => exact absurd (H12.out rfl) (by simp)
    all_goals
      as_aux_lemma =>
      simp only [if_true, if_false, Bool.false_eq_true] at HPost ⊢
      go_wp2_with fail
      refine (HPost.out _ HN4.out).mono ?_
      rintro e w5 ⟨rfl, hb5⟩
      have HB5 := Lib.hid (HB4.out.trans (hb5.mono HB4.out.size))
      have HG5 := Lib.hid (HG4.out.below hb5 HG4.out.inside)
      clear hb5 z0 z1 z2 z3 z4 z5 z6 z7 z8 z9 z10 z11 z12 z13 z14 z15 z16 y0
      have y0 := HG5.out.here (i := 0) rfl
      rcases hz with ⟨z1, z2⟩ | ⟨z1, z2⟩
      all_goals
        go_wp2_with fail
        all_goals first | (go_ret; exact ⟨rfl, HB5.out⟩) | (trace_state; sorry)
end Go.Proofs.Ytikjefghpnffkaa
