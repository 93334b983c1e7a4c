/- The contract of cron.seek. -/
import Derived.Test.YtcnoapogeohmkaaCronW
set_option linter.unusedVariables false
set_option linter.unusedSimpArgs false
namespace Go.Proofs.Ytcnoapogeohmkaa
open Go.RowKit
set_option linter.unusedVariables false
def clampT (n : Int) : Int := min (max n (-100000000000)) 100000000000
/-- does the day that begins at a time fit? -/
def Cr.dayFit (c : Cr) (shift at0 : Int) : Bool := c.day (Tide.moOf ((clampT (at0 + 43200) + 60 * shift) / 86400)) (Tide.dyOf ((clampT (at0 + 43200) + 60 * shift) / 86400)) (((clampT (at0 + 43200) + 60 * shift) / 86400 + 4) % 7)
/-- the beginning of the day of a time -/
def dayStart (sec shift : Int) : Int := sec - (sec + 60 * shift) % 86400
def dayAt (sec shift side : Int) (i : Nat) : Int := dayStart sec shift + side * i * 86400
def Cr.hit (c : Cr) (sec shift side : Int) (i : Nat) : Bool := c.dayFit shift (dayAt sec shift side i) && (c.inDay (dayAt sec shift side i) sec side).isSome
def inTime (o : Option Int) : Option Int := match o with | none => none | some n => if n < -100000000000 ∨ 100000000000 < n then none else some n
def Cr.seekO (c : Cr) (sec shift side : Int) : Option Int := match Tide.firstUnder (c.hit sec shift side) 3001 with | none => none | some i => inTime (c.inDay (dayAt sec shift side i) sec side)
def Cr.seekE (c : Cr) (sec shift : Int) : Int := if c.ok then (if okTime sec shift then 0 else 1) else 1
def Cr.seekV (c : Cr) (sec shift side : Int) : Value := if c.ok = true ∧ okTime sec shift then (match c.seekO sec shift side with | none => .tuple #[.int .i64 0, .bool false, .int .i64 0] | some n => .tuple #[.int .i64 n, .bool true, .int .i64 0]) else .tuple #[.int .i64 0, .bool false, .int .i64 1]
def Cr7 (w : World) (b : Nat) (c : Cr) : Prop := Tide.At w b 61 c.cells
theorem rest_parts (t : Int) : 0 ≤ t % 86400 / 3600 ∧ t % 86400 / 3600 ≤ 23 ∧ 0 ≤ t % 86400 / 60 % 60 ∧ t % 86400 / 60 % 60 ≤ 59 ∧ 0 ≤ t % 86400 % 60 ∧ t % 86400 % 60 ≤ 59 ∧ t % 86400 / 3600 * 3600 + t % 86400 / 60 % 60 * 60 + t % 86400 % 60 = t % 86400 := by omega
set_option maxRecDepth 100000 in
set_option maxHeartbeats 6400000 in
theorem cronSeekUp (c : Cr) (hf : c.fits) (sec shift : Int) (w : World) :
    Calls Try.prog 82 #[.agg c.cells, .int .i64 sec, .int .i64 shift, .int .i64 1] w fun e w' => e = .returned (c.seekV sec shift 1) ∧ Below w.heap.size w w' := by
  obtain ⟨ci, ch, cd, cm, cw, ad, aw⟩ := c
  have HC := Lib.hid hf
  have HB0 := Lib.hid ((Below.refl w.heap.size w).alloc (Nat.le_refl _) (.cells (Cr.cells ⟨ci, ch, cd, cm, cw, ad, aw⟩) 61))
  have HX0 := Lib.hid (Tide.At.made w 61 (Cr.cells ⟨ci, ch, cd, cm, cw, ad, aw⟩))
  clear hf
  cases hok : Cr.ok ⟨ci, ch, cd, cm, cw, ad, aw⟩
  · have HV := Lib.hid (show Cr.seekV ⟨ci, ch, cd, cm, cw, ad, aw⟩ sec shift 1 = .tuple #[.int .i64 0, .bool false, .int .i64 1] by unfold Cr.seekV; rw [if_neg (by rw [hok]; simp)])
    have he : Cr.err ⟨ci, ch, cd, cm, cw, ad, aw⟩ = 1 := Cr.err_no hok
    clear hok
    unfold Cr.cells
    go_enter Try.func82, Try.ntmps82
    go_wp2_with fail
    refine (cronCheck ⟨ci, ch, cd, cm, cw, ad, aw⟩ HC.out _).mono ?_
    rintro e w1 ⟨rfl, hb1⟩
    have HF := Lib.hid (HB0.out.trans (hb1.mono HB0.out.size))
    rw [he]
    clear hb1
    go_wp2_with fail
    go_ret3
    exact ⟨by rw [HV.out] <;> rfl, HF.out⟩
  have he : Cr.err ⟨ci, ch, cd, cm, cw, ad, aw⟩ = 0 := Cr.err_yes hok
  by_cases hot : okTime sec shift
  case neg =>
    have HV := Lib.hid (show Cr.seekV ⟨ci, ch, cd, cm, cw, ad, aw⟩ sec shift 1 = .tuple #[.int .i64 0, .bool false, .int .i64 1] by unfold Cr.seekV; rw [if_neg (fun h => hot h.2)])
    unfold Cr.cells
    go_enter Try.func82, Try.ntmps82
    go_wp2_with fail
    refine (cronCheck ⟨ci, ch, cd, cm, cw, ad, aw⟩ HC.out _).mono ?_
    rintro e w1 ⟨rfl, hb1⟩
    rw [he]
    have HB1 := Lib.hid (HB0.out.trans (hb1.mono HB0.out.size))
    clear hb1 hok
    go_wp2_with fail
    refine (civOf_no sec shift _ hot).mono ?_
    rintro e w2 ⟨rfl, hb2⟩
    have HF := Lib.hid ((HB1.out.trans (hb2.mono HB1.out.size)).alloc (by have := HB1.out.size; have := hb2.size; omega) (.cells #[.int .i64 0, .int .i64 0, .int .i64 0, .int .i64 0, .int .i64 0, .int .i64 0, .int .i64 0] 105))
    clear hb2 hot
    unfold civZero
    go_wp2_with fail
    go_ret3
    exact ⟨by rw [HV.out] <;> rfl, HF.out⟩
  have HV := Lib.hid (show Cr.seekV ⟨ci, ch, cd, cm, cw, ad, aw⟩ sec shift 1 = (match Cr.seekO ⟨ci, ch, cd, cm, cw, ad, aw⟩ sec shift 1 with | none => .tuple #[.int .i64 0, .bool false, .int .i64 0] | some n => .tuple #[.int .i64 n, .bool true, .int .i64 0]) by unfold Cr.seekV; rw [if_pos ⟨hok, hot⟩])
  have HOt := Lib.hid hot
  obtain ⟨t0, t1, t2, t3⟩ := hot
  clear hok
  unfold Cr.cells
  go_enter Try.func82, Try.ntmps82
  go_wp2_with fail
  refine (cronCheck ⟨ci, ch, cd, cm, cw, ad, aw⟩ HC.out _).mono ?_
  rintro e w1 ⟨rfl, hb1⟩
  rw [he]
  have HB1 := Lib.hid (HB0.out.trans (hb1.mono HB0.out.size))
  have HX1 := Lib.hid (HX0.out.below hb1 HX0.out.inside)
  clear hb1 he HB0 HX0
  go_wp2_with fail
  refine (civOf_yes sec shift _ HOt.out).mono ?_
  rintro e w2 ⟨rfl, hb2⟩
  have HB2 := Lib.hid (HB1.out.trans (hb2.mono HB1.out.size))
  have HX2 := Lib.hid (HX1.out.below hb2 HX1.out.inside)
  clear hb2
  unfold civAgg
  obtain ⟨h0, h1, m0, m1, s0, s1, hsum⟩ := rest_parts (sec + 60 * shift)
  have hst : dayStart sec shift = sec - (sec + 60 * shift) % 86400 := rfl
  generalize (sec + 60 * shift) % 86400 / 3600 = hh at h0 h1 hsum ⊢
  generalize (sec + 60 * shift) % 86400 / 60 % 60 = hm at m0 m1 hsum ⊢
  generalize (sec + 60 * shift) % 86400 % 60 = hs at s0 s1 hsum ⊢
  have q1 : IntKind.i64.wrap (hh * 3600) = hh * 3600 := IntWalk.i64_in _ (by omega)
  have q2 : IntKind.i64.wrap (sec - hh * 3600) = sec - hh * 3600 := IntWalk.i64_in _ (by omega)
  have q3 : IntKind.i64.wrap (hm * 60) = hm * 60 := IntWalk.i64_in _ (by omega)
  have q4 : IntKind.i64.wrap (sec - hh * 3600 - hm * 60) = sec - hh * 3600 - hm * 60 := IntWalk.i64_in _ (by omega)
  have q5 : IntKind.i64.wrap (sec - hh * 3600 - hm * 60 - hs) = sec - hh * 3600 - hm * 60 - hs := IntWalk.i64_in _ (by omega)
  obtain ⟨st, hSt⟩ : ∃ st, Hid (dayStart sec shift = st) := ⟨_, Lib.hid rfl⟩
  have q6 : sec - hh * 3600 - hm * 60 - hs = st := by rw [← hSt.out, hst, ← hsum]; omega
  have st0 : -100000100000 ≤ st := by omega
  have st1 : st ≤ 100000000000 := by omega
  go_upto_region 8 with fail
  try rw [q6]
  clear q1 q2 q3 q4 q5 q6 h0 h1 m0 m1 s0 s1 hsum hst
  have HB3 := Lib.hid (HB2.out.alloc HB2.out.size (.cells #[.int .i64 (Tide.yrOf ((sec + 60 * shift) / 86400)), .int .i64 (Tide.moOf ((sec + 60 * shift) / 86400)), .int .i64 (Tide.dyOf ((sec + 60 * shift) / 86400)), .int .i64 hh, .int .i64 hm, .int .i64 hs, .int .i64 (((sec + 60 * shift) / 86400 + 4) % 7)] 105))
  have HX3 := Lib.hid (HX2.out.alloc (.cells #[.int .i64 (Tide.yrOf ((sec + 60 * shift) / 86400)), .int .i64 (Tide.moOf ((sec + 60 * shift) / 86400)), .int .i64 (Tide.dyOf ((sec + 60 * shift) / 86400)), .int .i64 hh, .int .i64 hm, .int .i64 hs, .int .i64 (((sec + 60 * shift) / 86400 + 4) % 7)] 105))
  clear HB1 HB2 HX1 HX2
  go_wp2_with fail
  generalize w2.alloc (.cells #[.int .i64 (Tide.yrOf ((sec + 60 * shift) / 86400)), .int .i64 (Tide.moOf ((sec + 60 * shift) / 86400)), .int .i64 (Tide.dyOf ((sec + 60 * shift) / 86400)), .int .i64 hh, .int .i64 hm, .int .i64 hs, .int .i64 (((sec + 60 * shift) / 86400 + 4) % 7)] 105) = W at HB3 HX3 ⊢
  go_loopw [48] (fun x wr => ∃ i : Nat, i ≤ 3001 ∧ x = .int .i64 i ∧ Hid (∀ q, q < i → Cr.hit ⟨ci, ch, cd, cm, cw, ad, aw⟩ sec shift 1 q = false) ∧ Hid (Below W.heap.size W wr)) (fun x _ => 3001 - (intOf x).toNat)
  case atStart => exact ⟨0, by omega, rfl, Lib.hid (fun q hq => by omega), Lib.hid (Below.refl _ _)⟩
  case round =>
    obtain ⟨i, hi, rfl, HN, HB⟩ := hrel
    by_cases hlt : i < 3001
    · have i0 : (0 : Int) ≤ (i : Int) := by omega
      have i1 : (i : Int) < 3001 := by omega
      have q1 : IntKind.i64.wrap (1 * (i : Int)) = 1 * (i : Int) := IntWalk.i64_in _ (by omega)
      have q2 : IntKind.i64.wrap (1 * (i : Int) * 86400) = 1 * (i : Int) * 86400 := IntWalk.i64_in _ (by omega)
      have q3 : IntKind.i64.wrap (st + 1 * (i : Int) * 86400) = st + 1 * (i : Int) * 86400 := IntWalk.i64_in _ (by omega)
      go_upto_region 12 with fail
      obtain ⟨a, ha⟩ : ∃ a, Hid (st + (i : Int) * 86400 = a) := ⟨_, Lib.hid rfl⟩
      rw [ha.out]
      have HDa := Lib.hid (show dayAt sec shift 1 i = a by unfold dayAt; rw [hSt.out, ← ha.out]; omega)
      have a0 : -1000000000000 ≤ a := by have := ha.out; omega
      have a1 : a ≤ 1000000000000 := by have := ha.out; omega
      have q4 : IntKind.i64.wrap (a + 43200) = a + 43200 := IntWalk.i64_in _ (by omega)
      have HNo := Lib.hid (fun (h : Cr.hit ⟨ci, ch, cd, cm, cw, ad, aw⟩ sec shift 1 i = false) => (show ∀ q, q < i + 1 → Cr.hit ⟨ci, ch, cd, cm, cw, ad, aw⟩ sec shift 1 q = false from fun q hq => by
        rcases Nat.lt_succ_iff_lt_or_eq.1 hq with c | c
        · exact HN.out q c
        · rw [c]; exact h))
      have HYes := Lib.hid (fun (h : Cr.hit ⟨ci, ch, cd, cm, cw, ad, aw⟩ sec shift 1 i = true) => (show Cr.seekO ⟨ci, ch, cd, cm, cw, ad, aw⟩ sec shift 1 = inTime (Cr.inDay ⟨ci, ch, cd, cm, cw, ad, aw⟩ a sec 1) by unfold Cr.seekO; rw [Tide.under_is hlt h HN.out]; simp only [HDa.out]))
      have HHit := Lib.hid (show Cr.hit ⟨ci, ch, cd, cm, cw, ad, aw⟩ sec shift 1 i = (Cr.dayFit ⟨ci, ch, cd, cm, cw, ad, aw⟩ shift a && (Cr.inDay ⟨ci, ch, cd, cm, cw, ad, aw⟩ a sec 1).isSome) by unfold Cr.hit; rw [HDa.out])
      clear q1 q2 q3
      go_cut [17] (fun s17 wx => s17 = .int .i64 (clampT (a + 43200)) ∧ wr = wx)
      case first =>
        by_cases c1 : a + 43200 < -100000000000
        · go_wp2_with fail
          go_meet
          exact ⟨by rw [show clampT (a + 43200) = -100000000000 by unfold clampT; omega], rfl⟩
        · by_cases c2 : 100000000000 < a + 43200
          · have c3 : -100000000000 ≤ a + 43200 := by omega
            clear c1
            go_wp2_with fail
            go_meet
            exact ⟨by rw [show clampT (a + 43200) = 100000000000 by unfold clampT; omega], rfl⟩
          · have c3 : -100000000000 ≤ a + 43200 := by omega
            have c4 : a + 43200 ≤ 100000000000 := by omega
            clear c1 c2
            go_wp2_with fail
            go_meet
            exact ⟨by rw [show clampT (a + 43200) = a + 43200 by unfold clampT; omega], rfl⟩
      case rest =>
      obtain ⟨rfl, rfl⟩ := hcut
      have HDf := Lib.hid (show Cr.dayFit ⟨ci, ch, cd, cm, cw, ad, aw⟩ shift a = Cr.day ⟨ci, ch, cd, cm, cw, ad, aw⟩ (Tide.moOf ((clampT (a + 43200) + 60 * shift) / 86400)) (Tide.dyOf ((clampT (a + 43200) + 60 * shift) / 86400)) (((clampT (a + 43200) + 60 * shift) / 86400 + 4) % 7) from rfl)
      have HOn := Lib.hid (show okTime (clampT (a + 43200)) shift from ⟨by unfold clampT; omega, by unfold clampT; omega, t2, t3⟩)
      generalize clampT (a + 43200) = nn at HDf HOn ⊢
      clear q4
      go_wp2_with fail
      refine (civOf_yes nn shift _ HOn.out).mono ?_
      rintro e w4 ⟨rfl, hb4⟩
      have HB4 := Lib.hid (HB.out.trans (hb4.mono HB.out.size))
      clear hb4
      unfold civAgg
      generalize (nn + 60 * shift) % 86400 / 3600 = gh
      generalize (nn + 60 * shift) % 86400 / 60 % 60 = gm
      generalize (nn + 60 * shift) % 86400 % 60 = gs
      generalize (nn + 60 * shift) / 86400 = D at HDf ⊢
      have HB5 := Lib.hid (HB4.out.alloc HB4.out.size (.cells #[.int .i64 (Tide.yrOf D), .int .i64 (Tide.moOf D), .int .i64 (Tide.dyOf D), .int .i64 gh, .int .i64 gm, .int .i64 gs, .int .i64 ((D + 4) % 7)] 105))
      have HX4 := Lib.hid (HX3.out.below HB4.out HX3.out.inside)
      have hxl := HX4.out.inside
      have x0 : w4.cell? ⟨w.heap.size, 0, none⟩ = some (.int .u64 (ci : Int)) := HX4.out.here (i := 0) rfl
      have x1 : w4.cell? ⟨w.heap.size, 1, none⟩ = some (.int .u64 (ch : Int)) := HX4.out.here (i := 1) rfl
      have x2 : w4.cell? ⟨w.heap.size, 2, none⟩ = some (.int .u64 (cd : Int)) := HX4.out.here (i := 2) rfl
      have x3 : w4.cell? ⟨w.heap.size, 3, none⟩ = some (.int .u64 (cm : Int)) := HX4.out.here (i := 3) rfl
      have x4 : w4.cell? ⟨w.heap.size, 4, none⟩ = some (.int .u64 (cw : Int)) := HX4.out.here (i := 4) rfl
      have x5 : w4.cell? ⟨w.heap.size, 5, none⟩ = some (.bool ad) := HX4.out.here (i := 5) rfl
      have x6 : w4.cell? ⟨w.heap.size, 6, none⟩ = some (.bool aw) := HX4.out.here (i := 6) rfl
      go_wp2_with fail
      refine (cronDay ⟨ci, ch, cd, cm, cw, ad, aw⟩ HC.out _ _ _ _ _ _ _ _).mono ?_
      rintro e w5 ⟨rfl, hb5⟩
      have HB6 := Lib.hid (HB5.out.trans (hb5.mono HB5.out.size))
      clear hb5 x0 x1 x2 x3 x4 x5 x6 hxl HB4 HB5 HX4
      cases hday : Cr.day ⟨ci, ch, cd, cm, cw, ad, aw⟩ (Tide.moOf D) (Tide.dyOf D) ((D + 4) % 7)
      · have HF := Lib.hid (HNo.out (by rw [HHit.out, HDf.out, hday]; rfl))
        clear hday
        go_wp2_with fail
        go_roundw
        case rel => exact ⟨i + 1, by omega, by go_num, HF, HB6⟩
        case measure => simp [intOf]; omega
      · have HX5 := Lib.hid (HX3.out.below HB6.out HX3.out.inside)
        have hxl := HX5.out.inside
        have x0 : w5.cell? ⟨w.heap.size, 0, none⟩ = some (.int .u64 (ci : Int)) := HX5.out.here (i := 0) rfl
        have x1 : w5.cell? ⟨w.heap.size, 1, none⟩ = some (.int .u64 (ch : Int)) := HX5.out.here (i := 1) rfl
        have x2 : w5.cell? ⟨w.heap.size, 2, none⟩ = some (.int .u64 (cd : Int)) := HX5.out.here (i := 2) rfl
        have x3 : w5.cell? ⟨w.heap.size, 3, none⟩ = some (.int .u64 (cm : Int)) := HX5.out.here (i := 3) rfl
        have x4 : w5.cell? ⟨w.heap.size, 4, none⟩ = some (.int .u64 (cw : Int)) := HX5.out.here (i := 4) rfl
        have x5 : w5.cell? ⟨w.heap.size, 5, none⟩ = some (.bool ad) := HX5.out.here (i := 5) rfl
        have x6 : w5.cell? ⟨w.heap.size, 6, none⟩ = some (.bool aw) := HX5.out.here (i := 6) rfl
        have HHit2 := Lib.hid (show Cr.hit ⟨ci, ch, cd, cm, cw, ad, aw⟩ sec shift 1 i = (Cr.inDay ⟨ci, ch, cd, cm, cw, ad, aw⟩ a sec 1).isSome by rw [HHit.out, HDf.out, hday]; rfl)
        clear hday
        go_wp2_with fail
        refine (cronWithinUp ⟨ci, ch, cd, cm, cw, ad, aw⟩ HC.out a sec _ a0 a1).mono ?_
        rintro e w6 ⟨rfl, hb6⟩
        have HB7 := Lib.hid (HB6.out.trans (hb6.mono HB6.out.size))
        have HBe := Lib.hid (HB3.out.trans (HB7.out.mono HB3.out.size))
        clear hb6 x0 x1 x2 x3 x4 x5 x6 hxl
        cases hin : Cr.inDay ⟨ci, ch, cd, cm, cw, ad, aw⟩ a sec 1 with
        | none =>
          have HF := Lib.hid (HNo.out (by rw [HHit2.out, hin]; rfl))
          unfold foundV
          clear hin
          go_wp2_with fail
          go_roundw
          case rel => exact ⟨i + 1, by omega, by go_num, HF, HB7⟩
          case measure => simp [intOf]; omega
        | some n =>
          have HF0 := Lib.hid (HYes.out (by rw [HHit2.out, hin]; rfl))
          unfold foundV
          by_cases r1 : n < -100000000000
          · have HF := Lib.hid (show Cr.seekV ⟨ci, ch, cd, cm, cw, ad, aw⟩ sec shift 1 = .tuple #[.int .i64 0, .bool false, .int .i64 0] by rw [HV.out, HF0.out, hin]; unfold inTime; simp only; rw [if_pos (.inl r1)])
            clear hin
            go_wp2_with fail
            go_ret3
            exact ⟨by rw [HF.out] <;> rfl, HBe.out⟩
          · have r1' : -100000000000 ≤ n := by omega
            by_cases r2 : 100000000000 < n
            · have HF := Lib.hid (show Cr.seekV ⟨ci, ch, cd, cm, cw, ad, aw⟩ sec shift 1 = .tuple #[.int .i64 0, .bool false, .int .i64 0] by rw [HV.out, HF0.out, hin]; unfold inTime; simp only; rw [if_pos (.inr r2)])
              clear hin r1
              go_wp2_with fail
              go_ret3
              exact ⟨by rw [HF.out] <;> rfl, HBe.out⟩
            · have r2' : n ≤ 100000000000 := by omega
              have HF := Lib.hid (show Cr.seekV ⟨ci, ch, cd, cm, cw, ad, aw⟩ sec shift 1 = .tuple #[.int .i64 n, .bool true, .int .i64 0] by rw [HV.out, HF0.out, hin]; unfold inTime; simp only; rw [if_neg (by omega)])
              clear hin r1 r2
              go_wp2_with fail
              go_ret3
              exact ⟨by rw [HF.out] <;> rfl, HBe.out⟩
    · have hie : i = 3001 := by omega
      subst hie
      have HF := Lib.hid (show Cr.seekV ⟨ci, ch, cd, cm, cw, ad, aw⟩ sec shift 1 = .tuple #[.int .i64 0, .bool false, .int .i64 0] by rw [HV.out]; unfold Cr.seekO; rw [Tide.under_all HN.out])
      have HBe := Lib.hid (HB3.out.trans (HB.out.mono HB3.out.size))
      go_wp2_with fail
      go_ret3
      exact ⟨by rw [HF.out] <;> rfl, HBe.out⟩
set_option maxRecDepth 100000 in
set_option maxHeartbeats 6400000 in
theorem cronSeekDn (c : Cr) (hf : c.fits) (sec shift : Int) (w : World) :
    Calls Try.prog 82 #[.agg c.cells, .int .i64 sec, .int .i64 shift, .int .i64 (-1)] w fun e w' => e = .returned (c.seekV sec shift (-1)) ∧ Below w.heap.size w w' := by
  obtain ⟨ci, ch, cd, cm, cw, ad, aw⟩ := c
  have HC := Lib.hid hf
  have HB0 := Lib.hid ((Below.refl w.heap.size w).alloc (Nat.le_refl _) (.cells (Cr.cells ⟨ci, ch, cd, cm, cw, ad, aw⟩) 61))
  have HX0 := Lib.hid (Tide.At.made w 61 (Cr.cells ⟨ci, ch, cd, cm, cw, ad, aw⟩))
  clear hf
  cases hok : Cr.ok ⟨ci, ch, cd, cm, cw, ad, aw⟩
  · have HV := Lib.hid (show Cr.seekV ⟨ci, ch, cd, cm, cw, ad, aw⟩ sec shift (-1) = .tuple #[.int .i64 0, .bool false, .int .i64 1] by unfold Cr.seekV; rw [if_neg (by rw [hok]; simp)])
    have he : Cr.err ⟨ci, ch, cd, cm, cw, ad, aw⟩ = 1 := Cr.err_no hok
    clear hok
    unfold Cr.cells
    go_enter Try.func82, Try.ntmps82
    go_wp2_with fail
    refine (cronCheck ⟨ci, ch, cd, cm, cw, ad, aw⟩ HC.out _).mono ?_
    rintro e w1 ⟨rfl, hb1⟩
    have HF := Lib.hid (HB0.out.trans (hb1.mono HB0.out.size))
    rw [he]
    clear hb1
    go_wp2_with fail
    go_ret3
    exact ⟨by rw [HV.out] <;> rfl, HF.out⟩
  have he : Cr.err ⟨ci, ch, cd, cm, cw, ad, aw⟩ = 0 := Cr.err_yes hok
  by_cases hot : okTime sec shift
  case neg =>
    have HV := Lib.hid (show Cr.seekV ⟨ci, ch, cd, cm, cw, ad, aw⟩ sec shift (-1) = .tuple #[.int .i64 0, .bool false, .int .i64 1] by unfold Cr.seekV; rw [if_neg (fun h => hot h.2)])
    unfold Cr.cells
    go_enter Try.func82, Try.ntmps82
    go_wp2_with fail
    refine (cronCheck ⟨ci, ch, cd, cm, cw, ad, aw⟩ HC.out _).mono ?_
    rintro e w1 ⟨rfl, hb1⟩
    rw [he]
    have HB1 := Lib.hid (HB0.out.trans (hb1.mono HB0.out.size))
    clear hb1 hok
    go_wp2_with fail
    refine (civOf_no sec shift _ hot).mono ?_
    rintro e w2 ⟨rfl, hb2⟩
    have HF := Lib.hid ((HB1.out.trans (hb2.mono HB1.out.size)).alloc (by have := HB1.out.size; have := hb2.size; omega) (.cells #[.int .i64 0, .int .i64 0, .int .i64 0, .int .i64 0, .int .i64 0, .int .i64 0, .int .i64 0] 105))
    clear hb2 hot
    unfold civZero
    go_wp2_with fail
    go_ret3
    exact ⟨by rw [HV.out] <;> rfl, HF.out⟩
  have HV := Lib.hid (show Cr.seekV ⟨ci, ch, cd, cm, cw, ad, aw⟩ sec shift (-1) = (match Cr.seekO ⟨ci, ch, cd, cm, cw, ad, aw⟩ sec shift (-1) with | none => .tuple #[.int .i64 0, .bool false, .int .i64 0] | some n => .tuple #[.int .i64 n, .bool true, .int .i64 0]) by unfold Cr.seekV; rw [if_pos ⟨hok, hot⟩])
  have HOt := Lib.hid hot
  obtain ⟨t0, t1, t2, t3⟩ := hot
  clear hok
  unfold Cr.cells
  go_enter Try.func82, Try.ntmps82
  go_wp2_with fail
  refine (cronCheck ⟨ci, ch, cd, cm, cw, ad, aw⟩ HC.out _).mono ?_
  rintro e w1 ⟨rfl, hb1⟩
  rw [he]
  have HB1 := Lib.hid (HB0.out.trans (hb1.mono HB0.out.size))
  have HX1 := Lib.hid (HX0.out.below hb1 HX0.out.inside)
  clear hb1 he HB0 HX0
  go_wp2_with fail
  refine (civOf_yes sec shift _ HOt.out).mono ?_
  rintro e w2 ⟨rfl, hb2⟩
  have HB2 := Lib.hid (HB1.out.trans (hb2.mono HB1.out.size))
  have HX2 := Lib.hid (HX1.out.below hb2 HX1.out.inside)
  clear hb2
  unfold civAgg
  obtain ⟨h0, h1, m0, m1, s0, s1, hsum⟩ := rest_parts (sec + 60 * shift)
  have hst : dayStart sec shift = sec - (sec + 60 * shift) % 86400 := rfl
  generalize (sec + 60 * shift) % 86400 / 3600 = hh at h0 h1 hsum ⊢
  generalize (sec + 60 * shift) % 86400 / 60 % 60 = hm at m0 m1 hsum ⊢
  generalize (sec + 60 * shift) % 86400 % 60 = hs at s0 s1 hsum ⊢
  have q1 : IntKind.i64.wrap (hh * 3600) = hh * 3600 := IntWalk.i64_in _ (by omega)
  have q2 : IntKind.i64.wrap (sec - hh * 3600) = sec - hh * 3600 := IntWalk.i64_in _ (by omega)
  have q3 : IntKind.i64.wrap (hm * 60) = hm * 60 := IntWalk.i64_in _ (by omega)
  have q4 : IntKind.i64.wrap (sec - hh * 3600 - hm * 60) = sec - hh * 3600 - hm * 60 := IntWalk.i64_in _ (by omega)
  have q5 : IntKind.i64.wrap (sec - hh * 3600 - hm * 60 - hs) = sec - hh * 3600 - hm * 60 - hs := IntWalk.i64_in _ (by omega)
  obtain ⟨st, hSt⟩ : ∃ st, Hid (dayStart sec shift = st) := ⟨_, Lib.hid rfl⟩
  have q6 : sec - hh * 3600 - hm * 60 - hs = st := by rw [← hSt.out, hst, ← hsum]; omega
  have st0 : -100000100000 ≤ st := by omega
  have st1 : st ≤ 100000000000 := by omega
  go_upto_region 8 with fail
  try rw [q6]
  clear q1 q2 q3 q4 q5 q6 h0 h1 m0 m1 s0 s1 hsum hst
  have HB3 := Lib.hid (HB2.out.alloc HB2.out.size (.cells #[.int .i64 (Tide.yrOf ((sec + 60 * shift) / 86400)), .int .i64 (Tide.moOf ((sec + 60 * shift) / 86400)), .int .i64 (Tide.dyOf ((sec + 60 * shift) / 86400)), .int .i64 hh, .int .i64 hm, .int .i64 hs, .int .i64 (((sec + 60 * shift) / 86400 + 4) % 7)] 105))
  have HX3 := Lib.hid (HX2.out.alloc (.cells #[.int .i64 (Tide.yrOf ((sec + 60 * shift) / 86400)), .int .i64 (Tide.moOf ((sec + 60 * shift) / 86400)), .int .i64 (Tide.dyOf ((sec + 60 * shift) / 86400)), .int .i64 hh, .int .i64 hm, .int .i64 hs, .int .i64 (((sec + 60 * shift) / 86400 + 4) % 7)] 105))
  clear HB1 HB2 HX1 HX2
  go_wp2_with fail
  generalize w2.alloc (.cells #[.int .i64 (Tide.yrOf ((sec + 60 * shift) / 86400)), .int .i64 (Tide.moOf ((sec + 60 * shift) / 86400)), .int .i64 (Tide.dyOf ((sec + 60 * shift) / 86400)), .int .i64 hh, .int .i64 hm, .int .i64 hs, .int .i64 (((sec + 60 * shift) / 86400 + 4) % 7)] 105) = W at HB3 HX3 ⊢
  go_loopw [48] (fun x wr => ∃ i : Nat, i ≤ 3001 ∧ x = .int .i64 i ∧ Hid (∀ q, q < i → Cr.hit ⟨ci, ch, cd, cm, cw, ad, aw⟩ sec shift (-1) q = false) ∧ Hid (Below W.heap.size W wr)) (fun x _ => 3001 - (intOf x).toNat)
  case atStart => exact ⟨0, by omega, rfl, Lib.hid (fun q hq => by omega), Lib.hid (Below.refl _ _)⟩
  case round =>
    obtain ⟨i, hi, rfl, HN, HB⟩ := hrel
    by_cases hlt : i < 3001
    · have i0 : (0 : Int) ≤ (i : Int) := by omega
      have i1 : (i : Int) < 3001 := by omega
      have q1 : IntKind.i64.wrap ((-1) * (i : Int)) = (-1) * (i : Int) := IntWalk.i64_in _ (by omega)
      have q2 : IntKind.i64.wrap ((-1) * (i : Int) * 86400) = (-1) * (i : Int) * 86400 := IntWalk.i64_in _ (by omega)
      have q3 : IntKind.i64.wrap (st + (-1) * (i : Int) * 86400) = st + (-1) * (i : Int) * 86400 := IntWalk.i64_in _ (by omega)
      go_upto_region 12 with fail
      obtain ⟨a, ha⟩ : ∃ a, Hid (st + -(i : Int) * 86400 = a) := ⟨_, Lib.hid rfl⟩
      rw [ha.out]
      have HDa := Lib.hid (show dayAt sec shift (-1) i = a by unfold dayAt; rw [hSt.out, ← ha.out]; omega)
      have a0 : -1000000000000 ≤ a := by have := ha.out; omega
      have a1 : a ≤ 1000000000000 := by have := ha.out; omega
      have q4 : IntKind.i64.wrap (a + 43200) = a + 43200 := IntWalk.i64_in _ (by omega)
      have HNo := Lib.hid (fun (h : Cr.hit ⟨ci, ch, cd, cm, cw, ad, aw⟩ sec shift (-1) i = false) => (show ∀ q, q < i + 1 → Cr.hit ⟨ci, ch, cd, cm, cw, ad, aw⟩ sec shift (-1) q = false from fun q hq => by
        rcases Nat.lt_succ_iff_lt_or_eq.1 hq with c | c
        · exact HN.out q c
        · rw [c]; exact h))
      have HYes := Lib.hid (fun (h : Cr.hit ⟨ci, ch, cd, cm, cw, ad, aw⟩ sec shift (-1) i = true) => (show Cr.seekO ⟨ci, ch, cd, cm, cw, ad, aw⟩ sec shift (-1) = inTime (Cr.inDay ⟨ci, ch, cd, cm, cw, ad, aw⟩ a sec (-1)) by unfold Cr.seekO; rw [Tide.under_is hlt h HN.out]; simp only [HDa.out]))
      have HHit := Lib.hid (show Cr.hit ⟨ci, ch, cd, cm, cw, ad, aw⟩ sec shift (-1) i = (Cr.dayFit ⟨ci, ch, cd, cm, cw, ad, aw⟩ shift a && (Cr.inDay ⟨ci, ch, cd, cm, cw, ad, aw⟩ a sec (-1)).isSome) by unfold Cr.hit; rw [HDa.out])
      clear q1 q2 q3
      go_cut [17] (fun s17 wx => s17 = .int .i64 (clampT (a + 43200)) ∧ wr = wx)
      case first =>
        by_cases c1 : a + 43200 < -100000000000
        · go_wp2_with fail
          go_meet
          exact ⟨by rw [show clampT (a + 43200) = -100000000000 by unfold clampT; omega], rfl⟩
        · by_cases c2 : 100000000000 < a + 43200
          · have c3 : -100000000000 ≤ a + 43200 := by omega
            clear c1
            go_wp2_with fail
            go_meet
            exact ⟨by rw [show clampT (a + 43200) = 100000000000 by unfold clampT; omega], rfl⟩
          · have c3 : -100000000000 ≤ a + 43200 := by omega
            have c4 : a + 43200 ≤ 100000000000 := by omega
            clear c1 c2
            go_wp2_with fail
            go_meet
            exact ⟨by rw [show clampT (a + 43200) = a + 43200 by unfold clampT; omega], rfl⟩
      case rest =>
      obtain ⟨rfl, rfl⟩ := hcut
      have HDf := Lib.hid (show Cr.dayFit ⟨ci, ch, cd, cm, cw, ad, aw⟩ shift a = Cr.day ⟨ci, ch, cd, cm, cw, ad, aw⟩ (Tide.moOf ((clampT (a + 43200) + 60 * shift) / 86400)) (Tide.dyOf ((clampT (a + 43200) + 60 * shift) / 86400)) (((clampT (a + 43200) + 60 * shift) / 86400 + 4) % 7) from rfl)
      have HOn := Lib.hid (show okTime (clampT (a + 43200)) shift from ⟨by unfold clampT; omega, by unfold clampT; omega, t2, t3⟩)
      generalize clampT (a + 43200) = nn at HDf HOn ⊢
      clear q4
      go_wp2_with fail
      refine (civOf_yes nn shift _ HOn.out).mono ?_
      rintro e w4 ⟨rfl, hb4⟩
      have HB4 := Lib.hid (HB.out.trans (hb4.mono HB.out.size))
      clear hb4
      unfold civAgg
      generalize (nn + 60 * shift) % 86400 / 3600 = gh
      generalize (nn + 60 * shift) % 86400 / 60 % 60 = gm
      generalize (nn + 60 * shift) % 86400 % 60 = gs
      generalize (nn + 60 * shift) / 86400 = D at HDf ⊢
      have HB5 := Lib.hid (HB4.out.alloc HB4.out.size (.cells #[.int .i64 (Tide.yrOf D), .int .i64 (Tide.moOf D), .int .i64 (Tide.dyOf D), .int .i64 gh, .int .i64 gm, .int .i64 gs, .int .i64 ((D + 4) % 7)] 105))
      have HX4 := Lib.hid (HX3.out.below HB4.out HX3.out.inside)
      have hxl := HX4.out.inside
      have x0 : w4.cell? ⟨w.heap.size, 0, none⟩ = some (.int .u64 (ci : Int)) := HX4.out.here (i := 0) rfl
      have x1 : w4.cell? ⟨w.heap.size, 1, none⟩ = some (.int .u64 (ch : Int)) := HX4.out.here (i := 1) rfl
      have x2 : w4.cell? ⟨w.heap.size, 2, none⟩ = some (.int .u64 (cd : Int)) := HX4.out.here (i := 2) rfl
      have x3 : w4.cell? ⟨w.heap.size, 3, none⟩ = some (.int .u64 (cm : Int)) := HX4.out.here (i := 3) rfl
      have x4 : w4.cell? ⟨w.heap.size, 4, none⟩ = some (.int .u64 (cw : Int)) := HX4.out.here (i := 4) rfl
      have x5 : w4.cell? ⟨w.heap.size, 5, none⟩ = some (.bool ad) := HX4.out.here (i := 5) rfl
      have x6 : w4.cell? ⟨w.heap.size, 6, none⟩ = some (.bool aw) := HX4.out.here (i := 6) rfl
      go_wp2_with fail
      refine (cronDay ⟨ci, ch, cd, cm, cw, ad, aw⟩ HC.out _ _ _ _ _ _ _ _).mono ?_
      rintro e w5 ⟨rfl, hb5⟩
      have HB6 := Lib.hid (HB5.out.trans (hb5.mono HB5.out.size))
      clear hb5 x0 x1 x2 x3 x4 x5 x6 hxl HB4 HB5 HX4
      cases hday : Cr.day ⟨ci, ch, cd, cm, cw, ad, aw⟩ (Tide.moOf D) (Tide.dyOf D) ((D + 4) % 7)
      · have HF := Lib.hid (HNo.out (by rw [HHit.out, HDf.out, hday]; rfl))
        clear hday
        go_wp2_with fail
        go_roundw
        case rel => exact ⟨i + 1, by omega, by go_num, HF, HB6⟩
        case measure => simp [intOf]; omega
      · have HX5 := Lib.hid (HX3.out.below HB6.out HX3.out.inside)
        have hxl := HX5.out.inside
        have x0 : w5.cell? ⟨w.heap.size, 0, none⟩ = some (.int .u64 (ci : Int)) := HX5.out.here (i := 0) rfl
        have x1 : w5.cell? ⟨w.heap.size, 1, none⟩ = some (.int .u64 (ch : Int)) := HX5.out.here (i := 1) rfl
        have x2 : w5.cell? ⟨w.heap.size, 2, none⟩ = some (.int .u64 (cd : Int)) := HX5.out.here (i := 2) rfl
        have x3 : w5.cell? ⟨w.heap.size, 3, none⟩ = some (.int .u64 (cm : Int)) := HX5.out.here (i := 3) rfl
        have x4 : w5.cell? ⟨w.heap.size, 4, none⟩ = some (.int .u64 (cw : Int)) := HX5.out.here (i := 4) rfl
        have x5 : w5.cell? ⟨w.heap.size, 5, none⟩ = some (.bool ad) := HX5.out.here (i := 5) rfl
        have x6 : w5.cell? ⟨w.heap.size, 6, none⟩ = some (.bool aw) := HX5.out.here (i := 6) rfl
        have HHit2 := Lib.hid (show Cr.hit ⟨ci, ch, cd, cm, cw, ad, aw⟩ sec shift (-1) i = (Cr.inDay ⟨ci, ch, cd, cm, cw, ad, aw⟩ a sec (-1)).isSome by rw [HHit.out, HDf.out, hday]; rfl)
        clear hday
        go_wp2_with fail
        refine (cronWithinDn ⟨ci, ch, cd, cm, cw, ad, aw⟩ HC.out a sec _ a0 a1).mono ?_
        rintro e w6 ⟨rfl, hb6⟩
        have HB7 := Lib.hid (HB6.out.trans (hb6.mono HB6.out.size))
        have HBe := Lib.hid (HB3.out.trans (HB7.out.mono HB3.out.size))
        clear hb6 x0 x1 x2 x3 x4 x5 x6 hxl
        cases hin : Cr.inDay ⟨ci, ch, cd, cm, cw, ad, aw⟩ a sec (-1) with
        | none =>
          have HF := Lib.hid (HNo.out (by rw [HHit2.out, hin]; rfl))
          unfold foundV
          clear hin
          go_wp2_with fail
          go_roundw
          case rel => exact ⟨i + 1, by omega, by go_num, HF, HB7⟩
          case measure => simp [intOf]; omega
        | some n =>
          have HF0 := Lib.hid (HYes.out (by rw [HHit2.out, hin]; rfl))
          unfold foundV
          by_cases r1 : n < -100000000000
          · have HF := Lib.hid (show Cr.seekV ⟨ci, ch, cd, cm, cw, ad, aw⟩ sec shift (-1) = .tuple #[.int .i64 0, .bool false, .int .i64 0] by rw [HV.out, HF0.out, hin]; unfold inTime; simp only; rw [if_pos (.inl r1)])
            clear hin
            go_wp2_with fail
            go_ret3
            exact ⟨by rw [HF.out] <;> rfl, HBe.out⟩
          · have r1' : -100000000000 ≤ n := by omega
            by_cases r2 : 100000000000 < n
            · have HF := Lib.hid (show Cr.seekV ⟨ci, ch, cd, cm, cw, ad, aw⟩ sec shift (-1) = .tuple #[.int .i64 0, .bool false, .int .i64 0] by rw [HV.out, HF0.out, hin]; unfold inTime; simp only; rw [if_pos (.inr r2)])
              clear hin r1
              go_wp2_with fail
              go_ret3
              exact ⟨by rw [HF.out] <;> rfl, HBe.out⟩
            · have r2' : n ≤ 100000000000 := by omega
              have HF := Lib.hid (show Cr.seekV ⟨ci, ch, cd, cm, cw, ad, aw⟩ sec shift (-1) = .tuple #[.int .i64 n, .bool true, .int .i64 0] by rw [HV.out, HF0.out, hin]; unfold inTime; simp only; rw [if_neg (by omega)])
              clear hin r1 r2
              go_wp2_with fail
              go_ret3
              exact ⟨by rw [HF.out] <;> rfl, HBe.out⟩
    · have hie : i = 3001 := by omega
      subst hie
      have HF := Lib.hid (show Cr.seekV ⟨ci, ch, cd, cm, cw, ad, aw⟩ sec shift (-1) = .tuple #[.int .i64 0, .bool false, .int .i64 0] by rw [HV.out]; unfold Cr.seekO; rw [Tide.under_all HN.out])
      have HBe := Lib.hid (HB3.out.trans (HB.out.mono HB3.out.size))
      go_wp2_with fail
      go_ret3
      exact ⟨by rw [HF.out] <;> rfl, HBe.out⟩
end Go.Proofs.Ytcnoapogeohmkaa
