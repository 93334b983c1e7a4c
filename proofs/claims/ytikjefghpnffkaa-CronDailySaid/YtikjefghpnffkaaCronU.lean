/- The walk of CronDaily. -/
import Derived.Test.YtikjefghpnffkaaCronY
import Derived.Test.YtikjefghpnffkaaCronP
import Derived.Test.YtikjefghpnffkaaCronO
import Derived.Test.YtikjefghpnffkaaRestC
namespace Go.Proofs.Ytikjefghpnffkaa
open Go.RowKit
set_option linter.unusedVariables false
set_option maxRecDepth 1000000 in
theorem daily_facts : (dailyCr 6 30).seekN 23399 0 (-1) = -63000 ∧ (dailyCr 6 30).seekB 23399 0 (-1) = true ∧ (dailyCr 6 30).seekE 23399 0 = 0 := by decide +kernel
theorem dailyCr_ok {h m : Nat} (h1 : h ≤ 23) (h2 : m ≤ 59) : (dailyCr h m).ok = true := by
  have hf := dailyCr_fits h1 h2
  refine Cr.ok_of fun i hi => ?_
  match i, hi with
  | 0, _ =>
    refine (Tide.okField_iff (2 ^ m) hf.1 0 59 (by omega) (by omega) false).2 ⟨by have := Nat.two_pow_pos m; omega, fun n hn => ?_, fun h => by cases h⟩
    rw [Nat.testBit_two_pow] at hn
    have : m = n := by simpa using hn
    omega
  | 1, _ =>
    refine (Tide.okField_iff (2 ^ h) hf.2.1 0 23 (by omega) (by omega) false).2 ⟨by have := Nat.two_pow_pos h; omega, fun n hn => ?_, fun h => by cases h⟩
    rw [Nat.testBit_two_pow] at hn
    have : h = n := by simpa using hn
    omega
  | 2, _ => show Tide.okField 4294967294 1 31 true = true; decide +kernel
  | 3, _ => show Tide.okField 8190 1 12 false = true; decide +kernel
  | 4, _ => show Tide.okField 127 0 6 true = true; decide +kernel
theorem hasB_pow (k : Nat) (x : Int) (h : k < 64) : hasB (2 ^ k) x = decide (x = (k : Int)) := by
  unfold hasB
  rw [Nat.testBit_two_pow]
  by_cases hx : x = (k : Int)
  · subst hx
    rw [decide_eq_true (show (0 : Int) ≤ (k : Int) by omega), decide_eq_true (show (k : Int) < 64 by omega), decide_eq_true (show k = (k : Int).toNat by omega), decide_eq_true rfl]; rfl
  · rw [decide_eq_false hx]
    by_cases h0 : 0 ≤ x
    · rw [decide_eq_false (show ¬ k = x.toNat by omega), Bool.and_false]
    · rw [decide_eq_false h0]; rfl
theorem dailyCr_day (h m : Nat) (D : Int) : (dailyCr h m).dayN D = true := by
  have hv := Tide.date_valid D
  obtain ⟨v1, v2, v3, v4⟩ := hv
  have hl : Tide.long (Tide.yrOf D) (Tide.moOf D) ≤ 31 := by unfold Tide.long; split <;> (try split) <;> omega
  have b0 : ∀ n : Int, 1 ≤ n → n ≤ 12 → hasB 8190 n = true := by
    intro n n0 n1
    have : ∀ n : Fin 13, 1 ≤ n.val → hasB 8190 (n.val : Int) = true := by decide +kernel
    have := this ⟨n.toNat, by omega⟩ (by show 1 ≤ n.toNat; omega)
    rwa [show ((n.toNat : Nat) : Int) = n by omega] at this
  have b1 : ∀ n : Int, 0 ≤ n → n ≤ 6 → hasB 127 n = true := by
    intro n n0 n1
    have : ∀ n : Fin 7, hasB 127 (n.val : Int) = true := by decide +kernel
    have := this ⟨n.toNat, by omega⟩
    rwa [show ((n.toNat : Nat) : Int) = n by omega] at this
  have b2 : ∀ n : Int, 1 ≤ n → n ≤ 31 → hasB 4294967294 n = true := by
    intro n n0 n1
    have : ∀ n : Fin 32, 1 ≤ n.val → hasB 4294967294 (n.val : Int) = true := by decide +kernel
    have := this ⟨n.toNat, by omega⟩ (by show 1 ≤ n.toNat; omega)
    rwa [show ((n.toNat : Nat) : Int) = n by omega] at this
  unfold Cr.dayN Cr.day dailyCr
  simp only
  rw [b0 _ (by omega) (by omega), b1 _ (by omega) (by omega), b2 _ (by omega) (by omega)]
  rfl
theorem dailyCr_on {h m : Nat} (h1 : h ≤ 23) (h2 : m ≤ 59) (f n : Int) : (dailyCr h m).onT f n = decide ((n + 60 * f) % 86400 = 3600 * (h : Int) + 60 * (m : Int)) := by
  unfold Cr.onT Cr.clock
  rw [dailyCr_day]
  show (decide ((n + 60 * f) % 60 = 0) && true && (hasB (2 ^ h) ((n + 60 * f) % 86400 / 3600) && hasB (2 ^ m) ((n + 60 * f) % 86400 / 60 % 60))) = _
  rw [hasB_pow h _ (by omega), hasB_pow m _ (by omega), Bool.and_true, ← Bool.decide_and, ← Bool.decide_and]
  apply decide_eq_decide.2
  omega
theorem daily_next {h m : Nat} (h1 : h ≤ 23) (h2 : m ≤ 59) {s f : Int} (s0 : 0 ≤ s) (s1 : s < 1000000000) (f0 : -900 ≤ f) (f1 : f ≤ 900) :
    ∃ a, (dailyCr h m).seekN s f 1 = a ∧ (dailyCr h m).seekB s f 1 = true ∧ (dailyCr h m).seekE s f = 0 ∧ (dailyCr h m).seekN a f 1 = a + 86400 ∧ (dailyCr h m).seekB a f 1 = true ∧ (dailyCr h m).seekE a f = 0 ∧ (dailyCr h m).seekN s f (-1) = a - 86400 ∧ (dailyCr h m).seekB s f (-1) = true ∧ s < a ∧ a ≤ s + 86400 := by
  have hok := dailyCr_ok h1 h2
  have on := dailyCr_on h1 h2 f
  obtain ⟨T, hT, hT0, hT1⟩ : ∃ T : Int, 3600 * (h : Int) + 60 * (m : Int) = T ∧ 0 ≤ T ∧ T < 86400 := ⟨_, rfl, by omega, by omega⟩
  rw [hT] at on
  clear hT
  obtain ⟨a, ha⟩ : ∃ a, s + 1 + (T - (s + 1 + 60 * f)) % 86400 = a := ⟨_, rfl⟩
  have k1 : okTime s f := ⟨by omega, by omega, f0, f1⟩
  have k2 : okTime a f := ⟨by omega, by omega, f0, f1⟩
  have o1 : (dailyCr h m).seekO s f 1 = some a := Cr.up_is k1 (by omega) (by omega) (by unfold dayStart; omega) (by rw [on]; exact decide_eq_true (by omega)) (fun x x0 x1 => by rw [on]; exact decide_eq_false (by omega))
  have o2 : (dailyCr h m).seekO a f 1 = some (a + 86400) := Cr.up_is k2 (by omega) (by omega) (by unfold dayStart; omega) (by rw [on]; exact decide_eq_true (by omega)) (fun x x0 x1 => by rw [on]; exact decide_eq_false (by omega))
  have o3 : (dailyCr h m).seekO s f (-1) = some (a - 86400) := Cr.dn_is k1 (by omega) (by omega) (by unfold dayStart; omega) (by rw [on]; exact decide_eq_true (by omega)) (fun x x0 x1 => by rw [on]; exact decide_eq_false (by omega))
  refine ⟨a, ?_, ?_, ?_, ?_, ?_, ?_, ?_, ?_, by omega, by omega⟩
  · unfold Cr.seekN; rw [if_pos ⟨hok, k1⟩, o1]; rfl
  · unfold Cr.seekB; rw [if_pos ⟨hok, k1⟩, o1]; rfl
  · unfold Cr.seekE; rw [if_pos hok, if_pos k1]
  · unfold Cr.seekN; rw [if_pos ⟨hok, k2⟩, o2]; rfl
  · unfold Cr.seekB; rw [if_pos ⟨hok, k2⟩, o2]; rfl
  · unfold Cr.seekE; rw [if_pos hok, if_pos k2]
  · unfold Cr.seekN; rw [if_pos ⟨hok, k1⟩, o3]; rfl
  · unfold Cr.seekB; rw [if_pos ⟨hok, k1⟩, o3]; rfl
set_option maxRecDepth 100000 in
set_option maxHeartbeats 6400000 in
theorem cronDaily_walk (hour : Int) (h1 : (Lit.int .i64 hour).wf = true) (minute : Int) (h2 : (Lit.int .i64 minute).wf = true) (sec : Int) (h3 : (Lit.int .i64 sec).wf = true) (shift : Int) (h4 : (Lit.int .i64 shift).wf = true) (w : World) : Calls Try.prog 4 #[.int .i64 hour, .int .i64 minute, .int .i64 sec, .int .i64 shift] w fun e w' => e = .returned (.bool true) ∧ Below w.heap.size w w' := by
  obtain ⟨h, hh, hle⟩ : ∃ h : Nat, Hid (hour % 24 = (h : Int)) ∧ h ≤ 23 := ⟨(hour % 24).toNat, Lib.hid (by omega), by omega⟩
  obtain ⟨m, hm, mle⟩ : ∃ m : Nat, Hid (minute % 60 = (m : Int)) ∧ m ≤ 59 := ⟨(minute % 60).toNat, Lib.hid (by omega), by omega⟩
  obtain ⟨s, hs, s0, s1⟩ : ∃ s : Int, Hid (sec % 1000000000 = s) ∧ 0 ≤ s ∧ s < 1000000000 := ⟨_, Lib.hid rfl, by omega, by omega⟩
  obtain ⟨f, hf, f0, f1⟩ : ∃ f : Int, Hid (shift % 1801 = f + 900) ∧ -900 ≤ f ∧ f ≤ 900 := ⟨shift % 1801 - 900, Lib.hid (by omega), by omega, by omega⟩
  have e1 : IntKind.i64.wrap (f + 900 - 900) = f := by rw [show f + 900 - 900 = f by omega]; exact IntWalk.i64_in _ (by omega)
  obtain ⟨g1, g2, g3⟩ := daily_facts
  obtain ⟨⟨di, dh, dd, dm, dw, da, db⟩, hD⟩ : ∃ c, Hid (dailyCr 6 30 = c) := ⟨_, Lib.hid rfl⟩
  have HD := Lib.hid (fun (W : World) => cronDaily 6 30 W (by decide) (by decide))
  have k1 := dailyCr_fits (h := 6) (m := 30) (by decide) (by decide)
  rw [hD.out] at HD k1 g1 g2 g3
  have HK := Lib.hid (fun (W : World) => cronLast ⟨di, dh, dd, dm, dw, da, db⟩ k1 23399 0 W)
  clear k1 hD
  have G1 := Lib.hid g1; have G2 := Lib.hid g2; have G3 := Lib.hid g3
  clear g1 g2 g3
  have HC := Lib.hid (fun (W : World) => cronDaily h m W hle mle)
  have hfit := dailyCr_fits hle mle
  obtain ⟨a, a1, a2, a3, a4, a5, a6, a7, a8, a9, a10⟩ := daily_next hle mle s0 s1 f0 f1
  obtain ⟨⟨ci, ch, cd, cm, cw, ca, cb⟩, hE⟩ : ∃ c, Hid (dailyCr h m = c) := ⟨_, Lib.hid rfl⟩
  rw [hE.out] at HC hfit a1 a2 a3 a4 a5 a6 a7 a8
  have HN := Lib.hid (fun (n : Int) (W : World) => cronNext ⟨ci, ch, cd, cm, cw, ca, cb⟩ hfit n f W)
  have HL := Lib.hid (fun (W : World) => cronLast ⟨ci, ch, cd, cm, cw, ca, cb⟩ hfit s f W)
  have A1 := Lib.hid a1; have A2 := Lib.hid a2; have A3 := Lib.hid a3; have A4 := Lib.hid a4; have A5 := Lib.hid a5; have A6 := Lib.hid a6; have A7 := Lib.hid a7; have A8 := Lib.hid a8
  clear a1 a2 a3 a4 a5 a6 a7 a8 hfit hE h1 h2 h3 h4 hle mle
  have HB := Lib.hid (Below.refl w.heap.size w)
  have w1 : IntKind.i64.wrap (a + 86400 - a) = 86400 := by rw [show a + 86400 - a = 86400 by omega]; rfl
  have w2 : IntKind.i64.wrap (a - s) = a - s := IntWalk.i64_in _ (by omega)
  have w3 : IntKind.i64.wrap (a - 86400) = a - 86400 := IntWalk.i64_in _ (by omega)
  have w4 : a - s ≤ 86400 := by omega
  go_enter Try.func4, Try.ntmps4
  go_wp2_with fail
  refine (HD.out _).mono ?_
  rintro e W1 ⟨rfl, hb1⟩
  have HB1 := Lib.hid (HB.out.trans (hb1.mono HB.out.size))
  unfold Cr.cells
  clear hb1
  go_wp2_with fail
  refine (HK.out _).mono ?_
  rintro e W2 ⟨rfl, hb2⟩
  rw [G1.out, G2.out, G3.out]
  have HB2 := Lib.hid (HB1.out.trans (hb2.mono HB1.out.size))
  clear hb2 G1 G2 G3
  go_wp2_with fail
  refine (restC hour 24 _ (by omega) (by omega)).mono ?_
  rintro e W2' ⟨rfl, rfl⟩
  rw [hh.out]
  go_wp2_with fail
  refine (restC minute 60 _ (by omega) (by omega)).mono ?_
  rintro e W2' ⟨rfl, rfl⟩
  rw [hm.out]
  go_wp2_with fail
  refine (HC.out _).mono ?_
  rintro e W3 ⟨rfl, hb3⟩
  have HB3 := Lib.hid (HB2.out.trans (hb3.mono HB2.out.size))
  unfold Cr.cells
  clear hb3
  have HB4 := Lib.hid (HB3.out.alloc HB3.out.size (.cells #[.int .u64 (ci : Int), .int .u64 (ch : Int), .int .u64 (cd : Int), .int .u64 (cm : Int), .int .u64 (cw : Int), .bool ca, .bool cb] 24))
  have HX4 := Lib.hid (Tide.At.made W3 24 #[.int .u64 (ci : Int), .int .u64 (ch : Int), .int .u64 (cd : Int), .int .u64 (cm : Int), .int .u64 (cw : Int), .bool ca, .bool cb])
  go_upto_region 5 with fail
  generalize W3.alloc (.cells #[.int .u64 (ci : Int), .int .u64 (ch : Int), .int .u64 (cd : Int), .int .u64 (cm : Int), .int .u64 (cw : Int), .bool ca, .bool cb] 24) = W4 at HB4 HX4 ⊢
  obtain ⟨g, hg⟩ : ∃ g, g = W3.heap.size := ⟨_, rfl⟩
  rw [← hg] at HX4 ⊢
  clear hg
  go_wp2_with fail
  refine (restC sec 1000000000 _ (by omega) (by omega)).mono ?_
  rintro e W2' ⟨rfl, rfl⟩
  rw [hs.out]
  go_wp2_with fail
  refine (restC shift 1801 _ (by omega) (by omega)).mono ?_
  rintro e W2' ⟨rfl, rfl⟩
  rw [hf.out]
  have z0 := HX4.out.here (i := 0) rfl
  have z1 := HX4.out.here (i := 1) rfl
  have z2 := HX4.out.here (i := 2) rfl
  have z3 := HX4.out.here (i := 3) rfl
  have z4 := HX4.out.here (i := 4) rfl
  have z5 := HX4.out.here (i := 5) rfl
  have z6 := HX4.out.here (i := 6) rfl
  go_wp2_with fail
  refine (HN.out s _).mono ?_
  rintro e W5 ⟨rfl, hb5⟩
  rw [A1.out, A2.out, A3.out]
  have HB5 := Lib.hid (HB4.out.trans (hb5.mono HB4.out.size))
  have HX5 := Lib.hid (HX4.out.below hb5 HX4.out.inside)
  clear hb5 z0 z1 z2 z3 z4 z5 z6
  have z0 := HX5.out.here (i := 0) rfl
  have z1 := HX5.out.here (i := 1) rfl
  have z2 := HX5.out.here (i := 2) rfl
  have z3 := HX5.out.here (i := 3) rfl
  have z4 := HX5.out.here (i := 4) rfl
  have z5 := HX5.out.here (i := 5) rfl
  have z6 := HX5.out.here (i := 6) rfl
  go_wp2_with fail
  refine (HN.out a _).mono ?_
  rintro e W6 ⟨rfl, hb6⟩
  rw [A4.out, A5.out, A6.out]
  have HB6 := Lib.hid (HB5.out.trans (hb6.mono HB5.out.size))
  have HX6 := Lib.hid (HX5.out.below hb6 HX5.out.inside)
  clear hb6 z0 z1 z2 z3 z4 z5 z6
  have z0 := HX6.out.here (i := 0) rfl
  have z1 := HX6.out.here (i := 1) rfl
  have z2 := HX6.out.here (i := 2) rfl
  have z3 := HX6.out.here (i := 3) rfl
  have z4 := HX6.out.here (i := 4) rfl
  have z5 := HX6.out.here (i := 5) rfl
  have z6 := HX6.out.here (i := 6) rfl
  go_wp2_with fail
  refine (HL.out _).mono ?_
  rintro e W7 ⟨rfl, hb7⟩
  rw [A7.out, A8.out, A3.out]
  have HB7 := Lib.hid (HB6.out.trans (hb7.mono HB6.out.size))
  clear hb7 z0 z1 z2 z3 z4 z5 z6
  go_wp2_with fail
  go_ret
  exact ⟨rfl, HB7.out⟩
end Go.Proofs.Ytikjefghpnffkaa
