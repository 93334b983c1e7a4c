/- The walk of LoopBounds. -/
import Derived.Test.YtcnoapogeohmkaaLopW
import Derived.Test.YtcnoapogeohmkaaOpenPlan
set_option linter.unusedVariables false
set_option linter.unusedSimpArgs false
namespace Go.Proofs.Ytcnoapogeohmkaa
open Go.RowKit
set_option linter.unusedVariables false
theorem runPause (w0 : World) (top g : Nat) (l : Lp) (n : Int) (w : World) (h : LopRun w0 top w g l) :
    Calls Try.prog 18 #[.pointer (some ⟨g, 0, none⟩), .int .i64 n] w fun e w' => e = .returned (.int .i64 (pauseE n)) ∧ LopRun w0 w'.heap.size w' g (pauseL l n) ∧ Tide.Chg (fun b => w0.heap.size ≤ b ∧ b < top) w w' := by
  obtain ⟨gs, vt, vf, vw, vm, S1, S2, h1, h2, h3⟩ := h
  refine (lopPause S1 S2 g gs vt vf vw vm l n w h1).mono ?_
  rintro e w' ⟨he, h4, hc⟩
  refine ⟨he, ⟨gs, vt, vf, vw, vm, S1, S2, h4, fun b hb => ⟨(h2 b hb).1, hb.elim (h4.lim b) (h4.st.lim b)⟩, ?_⟩, hc.mono fun b _ hb => h2 b (.inl hb)⟩
  exact h3.trans (hc.below h3.size (fun b hb hs => by have := h2 b (.inl hs); omega))
/-- between two glances -/
def BdAt (w0 w : World) (g : Nat) (P : Pln) (k : Nat) (pz : Bool) : Prop := ∃ l, LopRun w0 w.heap.size w g l ∧ l.ok k ∧ l.p = P ∧ pz = decide (0 ≤ l.pause)
def glC (m : GlV) : Array Value := #[.int .i64 m.kind, .int .i64 m.now, .int .i64 m.sec, .int .i64 m.have0, .int .i64 m.n, .slice m.A m.rs.length m.cap, .bool m.busy]
def failQ (ts : List Trg) (rs : List RdV) (i : Nat) : Bool := ((rs[i]?).map RdV.failed).getD false && ((ts[i]?).map mayFail).getD false
theorem lookL_pause (l : Lp) (now sec have0 : Int) (rs : List Rd) (busy : Bool) : (lookL l now sec have0 rs busy).pause = l.pause := by
  unfold lookL
  split
  · rfl
  · split
    · rfl
    · show ((l.seen now rs).marked now _).pause = _
      unfold Lp.marked; split <;> rfl
theorem BdAt.below {w0 w w' : World} {g k : Nat} {P : Pln} {pz : Bool} (h : BdAt w0 w g P k pz) (hb : Below w.heap.size w w') : BdAt w0 w' g P k pz := by
  obtain ⟨l, h1, h2⟩ := h
  exact ⟨l, (h1.below hb).top, h2⟩
theorem failQ_at {ts : List Trg} {rs : List RdV} {i : Nat} {t : Trg} {r : RdV} (ht : ts[i]? = some t) (hr : rs[i]? = some r) : failQ ts rs i = (r.failed && t.kind != 3) := by
  unfold failQ; rw [ht, hr]; rfl
theorem failQ_hit {ts : List Trg} {rs : List RdV} {n : Nat} (h : (Tide.firstAt (failQ ts rs) (List.range n)).isSome = true) : Failing ts (rs.map RdV.rd) := by
  obtain ⟨i, hi⟩ := Option.isSome_iff_exists.1 h
  obtain ⟨a, h1, h2, _⟩ := Tide.firstAt_spec hi
  unfold failQ at h2
  cases hr : rs[a]? with
  | none => rw [hr] at h2; simp at h2
  | some r =>
    cases ht : ts[a]? with
    | none => rw [ht] at h2; simp at h2
    | some t =>
      rw [hr, ht] at h2
      simp only [Option.map_some, Option.getD_some, Bool.and_eq_true] at h2
      exact ⟨a, t, r.rd, ht, by rw [List.getElem?_map, hr]; rfl, h2.1, by have := h2.2; unfold mayFail at this; simpa using this⟩
set_option maxRecDepth 100000 in
set_option maxHeartbeats 12800000 in
theorem loopBounds_walk (p : Pln) (A : Option Addr) (cap : Nat) (w : World) (hft : ∀ t ∈ p.trigs, t.fits) (hnm : p.name.size ≤ 9223372036854775807) (hli : Tide.ListIn w 17 Trg.enc (.slice A p.trigs.length cap) p.trigs) (hpl : p.trigs.length ≤ 9223372036854775807)
    (A1 : Option Addr) (cap1 : Nat) (gl : List GlV) (hg : Tide.ListIn w 7 GlV.enc (.slice A1 gl.length cap1) gl) (hq : ∀ m ∈ gl, m.right w) (hgl : gl.length ≤ 9223372036854775807) :
    Calls Try.prog 6 #[plnV p (.slice A p.trigs.length cap), .slice A1 gl.length cap1] w fun e w' => e = .returned (.bool true) ∧ Below w.heap.size w w' := by
  have HLi := Lib.hid hli; have HGl := Lib.hid hg; have HQ := Lib.hid hq; have HFt := Lib.hid hft
  have HNm := Lib.hid hnm; have HPl := Lib.hid hpl
  have HA := Lib.hid (Tide.At.made w 26 (plnC p (.slice A p.trigs.length cap)))
  have HB := Lib.hid ((Below.refl w.heap.size w).alloc (Nat.le_refl _) (.cells (plnC p (.slice A p.trigs.length cap)) 26))
  clear hli hg hq hft hnm hpl
  unfold plnV
  go_enter Try.func6, Try.ntmps6
  go_upto_region 1 with fail
  change Code.wp Try.prog _ _ _ (w.alloc (.cells (plnC p (.slice A p.trigs.length cap)) 26))
  generalize w.alloc (.cells (plnC p (.slice A p.trigs.length cap)) 26) = W at HA HB ⊢
  go_wp2_with fail
  refine (looksC _).mono ?_
  rintro e W2 ⟨rfl, hb1⟩
  have HA2 := Lib.hid (HA.out.below hb1 HA.out.inside)
  have HB2 := Lib.hid (HB.out.trans (hb1.mono HB.out.size))
  clear hb1 HA HB
  go_wp2_with (refine wpList_load_row rfl 26 (.tmp 2) rfl w.heap.size rfl 26 _ (0, 0) _ HA2.out Try.underlying26 rfl (by kernel_rfl) ?_)
  by_cases hE : planE p = 0
  · refine (lopNewYes p A cap W2 (HLi.out.below HB2.out (Nat.le_refl _)) HFt.out HNm.out HPl.out hE).mono ?_
    intro e w3 h3
    obtain ⟨g, rfl, hr3⟩ := runNew (Below.refl _ W2) h3
    have HR3 := Lib.hid (show BdAt W2 w3 g p 0 false from ⟨_, hr3, newLp_ok hE HFt.out, rfl, rfl⟩)
    have HP := Lib.hid (planE_ok hE)
    clear h3 hr3 hE
    by_cases hl : 60 < gl.length
    · have hl2 : (60 : Int) < (gl.length : Int) := by omega
      have HBe := Lib.hid (by obtain ⟨l, hr, _⟩ := HR3.out; exact HB2.out.trans (hr.out.mono HB2.out.size) : Below w.heap.size w w3)
      go_wp2_with fail
      go_ret
      exact ⟨rfl, HBe.out⟩
    · have hl2 : (gl.length : Int) ≤ 60 := by omega
      go_wp2_with fail
      go_loopw [7, 35] (fun a i wr => ∃ (k : Nat) (pz : Bool), k ≤ gl.length ∧ i = .int .i64 k ∧ a = .bool pz ∧ Hid (BdAt W2 wr g p k pz)) (fun _ i _ => gl.length - (intOf i).toNat)
      case atStart => exact ⟨0, false, Nat.zero_le _, rfl, rfl, HR3⟩
      case round =>
        obtain ⟨k, pz, hk, rfl, rfl, HK⟩ := hrel
        obtain ⟨l, hr, hok, hlp, hpz⟩ := HK.out
        have HBk := Lib.hid (HB2.out.trans (hr.out.mono HB2.out.size))
        by_cases hlt : k < gl.length
        · obtain ⟨m, hm⟩ := Tide.get_some gl hlt
          obtain ⟨A9, c9, e9, hA9⟩ := HGl.out
          obtain ⟨rfl, _, rfl⟩ := slice_eq e9
          obtain ⟨b, off, rfl, hbl, hc⟩ := hA9 (by omega)
          have cl : ∀ (j : Nat) (u : Value), m.enc[j]? = some u → wr.cell? ⟨b, off + k * 7 + j, none⟩ = some u := fun j u hu => (HBk.out.cell (p := ⟨b, off + k * 7 + j, none⟩) hbl).trans (hc k m j u hm hu)
          have c0 : wr.cell? ⟨b, off + k * 7, none⟩ = some (.int .i64 m.kind) := cl 0 _ rfl
          have c1 : wr.cell? ⟨b, off + k * 7 + 1, none⟩ = some (.int .i64 m.now) := cl 1 _ rfl
          have c2 : wr.cell? ⟨b, off + k * 7 + 2, none⟩ = some (.int .i64 m.sec) := cl 2 _ rfl
          have c3 : wr.cell? ⟨b, off + k * 7 + 3, none⟩ = some (.int .i64 m.have0) := cl 3 _ rfl
          have c4 : wr.cell? ⟨b, off + k * 7 + 4, none⟩ = some (.int .i64 m.n) := cl 4 _ rfl
          have c5 : wr.cell? ⟨b, off + k * 7 + 5, none⟩ = some (.slice m.A m.rs.length m.cap) := cl 5 _ rfl
          have c6 : wr.cell? ⟨b, off + k * 7 + 6, none⟩ = some (.bool m.busy) := cl 6 _ rfl
          have k0 : (0 : Int) ≤ (k : Int) := by omega
          have k1 : (k : Int) < (gl.length : Int) := by omega
          have hkk : k ≤ 60 := by omega
          have HMr := Lib.hid (HQ.out m (List.mem_of_getElem? hm))
          have HX := Lib.hid (Tide.At.made wr 50 (glC m))
          have HR := Lib.hid (hr.alloc (.cells (glC m) 50))
          have HOk := Lib.hid hok
          have HLp := Lib.hid hlp
          have HPz := Lib.hid hpz
          obtain ⟨top, htop⟩ : ∃ top, wr.heap.size = top := ⟨_, rfl⟩
          clear hr hok hlp hpz HK HR3 hm hA9 hbl hc cl e9
          go_upto_region 10 with fail
          change Code.wp Try.prog _ _ _ (wr.alloc (.cells (glC m) 50))
          clear c0 c1 c2 c3 c4 c5 c6
          generalize wr.alloc (.cells (glC m) 50) = W5 at HX HR ⊢
          rw [htop] at HX HR
          have HBk5 := Lib.hid (HB2.out.trans (HR.out.out.mono HB2.out.size))
          clear htop HBk
          have x0 : W5.cell? ⟨top, 0, none⟩ = some (.int .i64 m.kind) := HX.out.here rfl
          have x4 : W5.cell? ⟨top, 4, none⟩ = some (.int .i64 m.n) := HX.out.here rfl
          by_cases h1 : m.kind = 1
          · rw [h1] at x0
            have HPa := Lib.hid (runPause W2 top g l m.n W5 HR.out)
            clear h1
            by_cases hbad : m.n < -1 ∨ 50 < m.n
            · have HEp := Lib.hid (show pauseE m.n = 1 by unfold pauseE; rw [if_pos hbad])
              have HLl := Lib.hid (show pauseL l m.n = l by unfold pauseL; rw [if_pos hbad])
              clear hbad
              go_wp2_with fail
              refine HPa.out.mono ?_
              rintro e w6 ⟨rfl, hr6, hc6⟩
              rw [HEp.out]
              rw [HLl.out] at hr6
              have x0 : w6.cell? ⟨top, 0, none⟩ = some (.int .i64 1) := (hc6.cell HX.out.inside (by show ¬ (_ ∧ top < top); omega) 0).trans x0
              have HN := Lib.hid (show BdAt W2 w6 g p (k + 1) pz from ⟨l, hr6, Lp.ok_up HOk.out, HLp.out, HPz.out⟩)
              clear hr6 hc6 HPa HR HX
              go_wp2_with fail
              go_roundw
              case rel => exact ⟨k + 1, pz, by omega, by go_num, rfl, HN⟩
              case measure => simp [intOf]; omega
            · have HEp := Lib.hid (show pauseE m.n = 0 by unfold pauseE; rw [if_neg hbad])
              have HLl := Lib.hid (show (pauseL l m.n).pause = m.n by unfold pauseL; rw [if_neg hbad])
              clear hbad
              go_wp2_with fail
              refine HPa.out.mono ?_
              rintro e w6 ⟨rfl, hr6, hc6⟩
              rw [HEp.out]
              have y0 : w6.cell? ⟨top, 0, none⟩ = some (.int .i64 1) := (hc6.cell HX.out.inside (by show ¬ (_ ∧ top < top); omega) 0).trans x0
              have y4 : w6.cell? ⟨top, 4, none⟩ = some (.int .i64 m.n) := (hc6.cell HX.out.inside (by show ¬ (_ ∧ top < top); omega) 4).trans x4
              have HN := Lib.hid (show BdAt W2 w6 g p (k + 1) (decide (0 ≤ m.n)) from ⟨_, hr6, Lp.ok_up (pause_ok HOk.out m.n), (pauseL_p l m.n).trans HLp.out, by rw [HLl.out]⟩)
              clear hr6 hc6 HPa HR HX x0 x4
              go_wp2_with fail
              go_roundw
              case rel => exact ⟨k + 1, _, by omega, by go_num, rfl, HN⟩
              case measure => simp [intOf]; omega
          · have h1b : (m.kind == 1) = false := by simpa using h1
            clear h1
            by_cases h2 : m.kind = 0
            · rw [h2] at x0 h1b
              clear h2 h1b
              have x1 : W5.cell? ⟨top, 1, none⟩ = some (.int .i64 m.now) := HX.out.here rfl
              have x2 : W5.cell? ⟨top, 2, none⟩ = some (.int .i64 m.sec) := HX.out.here rfl
              have x3 : W5.cell? ⟨top, 3, none⟩ = some (.int .i64 m.have0) := HX.out.here rfl
              have x5 : W5.cell? ⟨top, 5, none⟩ = some (.slice m.A m.rs.length m.cap) := HX.out.here rfl
              have x6 : W5.cell? ⟨top, 6, none⟩ = some (.bool m.busy) := HX.out.here rfl
              have HRd := Lib.hid (HMr.out.rds.chg (C := fun _ => False) (Tide.Chg.of_below (B := w.heap.size) HBk5.out (Nat.le_refl _)) (fun _ _ h => h))
              go_wp2_with fail
              refine (runLook W2 top (fun b => b < w.heap.size) g _ l m.now m.sec m.have0 m.rs m.busy k W5 HR.out HRd.out (fun b hb => .inl (Nat.lt_of_lt_of_le hb HB2.out.size)) HOk.out (by omega) HMr.out.len).mono ?_
              rintro e w7 ⟨rfl, hr7, hc7⟩
              have hx7 := HX.out.chg hc7 (fun h => by have := h.2; omega)
              have y6 : w7.cell? ⟨top, 6, none⟩ = some (.bool m.busy) := hx7.here rfl
              have y5 : w7.cell? ⟨top, 5, none⟩ = some (.slice m.A m.rs.length m.cap) := hx7.here rfl
              have HB7 := Lib.hid (HB2.out.trans (hr7.out.mono HB2.out.size))
              have hat := HA2.out.below hr7.out HA2.out.inside
              have z1 : w7.cell? ⟨w.heap.size, 1, none⟩ = some (.int .i64 p.mn) := hat.here rfl
              have z2 : w7.cell? ⟨w.heap.size, 2, none⟩ = some (.int .i64 p.mx) := hat.here rfl
              have z17 : w7.cell? ⟨w.heap.size, 17, none⟩ = some (.slice A p.trigs.length cap) := hat.here rfl
              have HN := Lib.hid (show BdAt W2 w7 g p (k + 1) pz from ⟨_, hr7, look_ok HOk.out, (lookL_p _ _ _ _ _ _).trans HLp.out, by rw [lookL_pause]; exact HPz.out⟩)
              have HXr := Lib.hid hx7
              have HAt := Lib.hid hat
              clear hr7 hc7 hx7 hat HR HX x0 x1 x2 x3 x4 x5 x6 HRd
              cases hk : lookOk l m.now m.sec m.have0 (m.rs.map RdV.rd).length
              · have hEr : lookE l m.now m.sec m.have0 (m.rs.map RdV.rd).length = 1 := by unfold lookE; rw [if_pos hk]
                rw [hEr]
                generalize lookN l m.now m.sec m.have0 (m.rs.map RdV.rd) m.busy = N
                clear hk hEr y6 y5 z1 z2 z17
                go_wp2_with fail
                go_roundw
                case rel => exact ⟨k + 1, pz, by omega, by go_num, rfl, HN⟩
                case measure => simp [intOf]; omega
              · have hEr : lookE l m.now m.sec m.have0 (m.rs.map RdV.rd).length = 0 := by unfold lookE; rw [if_neg (by rw [hk]; simp)]
                rw [hEr]
                cases pz
                case true =>
                  generalize lookN l m.now m.sec m.have0 (m.rs.map RdV.rd) m.busy = N
                  clear hk hEr y6 y5 z1 z2 z17
                  go_wp2_with fail
                  go_roundw
                  case rel => exact ⟨k + 1, true, by omega, by go_num, rfl, HN⟩
                  case measure => simp [intOf]; omega
                case false =>
                  have hp0 : l.pause < 0 := by have := HPz.out; simpa using this
                  have hbs := bounds_says (busy := m.busy) HOk.out hk hp0
                  have hfew : m.rs.length ≤ 5 := by
                    have h1 := (lookOk_iff.1 hk).2.2.2.2.2.2
                    rw [List.length_map] at h1
                    have := (planE_ok HOk.out.plan).few; omega
                  have hsame : m.rs.length = p.trigs.length := by
                    have h1 := (lookOk_iff.1 hk).2.2.2.2.2.2
                    rw [List.length_map, HLp.out] at h1; exact h1
                  rw [HLp.out] at hbs
                  generalize lookN l m.now m.sec m.have0 (m.rs.map RdV.rd) m.busy = N at hbs ⊢
                  obtain ⟨n1, n2, n3⟩ := hbs
                  have HN3 := Lib.hid n3
                  have HSm := Lib.hid hsame
                  clear hk hEr n3 hsame hp0
                  go_upto_region 15 with fail
                  go_cut [12] (fun s wx => ∃ fb : Bool, s = .bool fb ∧ Hid ((fb = true → 1 ≤ N) ∧ Below w7.heap.size w7 wx))
                  case first =>
                    have HL7 := Lib.hid (HLi.out.below HB7.out (Nat.le_refl _))
                    obtain ⟨r1, hr1⟩ : ∃ r1, (Tide.firstAt mayFail p.trigs).isSome = r1 := ⟨_, rfl⟩
                    have HT := Lib.hid (trgAny p.trigs _ w7 HL7.out (by have := HP.out.few; omega))
                    rw [hr1] at HT
                    clear hr1
                    go_wp2_with fail
                    refine HT.out.mono ?_
                    rintro e w8 ⟨rfl, hb8⟩
                    have HB8 := Lib.hid hb8
                    clear HT
                    cases r1
                    · clear hb8
                      go_wp2_with fail
                      go_meet
                      exact ⟨false, rfl, Lib.hid ⟨fun h => absurd h (by simp), HB8.out⟩⟩
                    · have y5b : w8.cell? ⟨top, 5, none⟩ = some (.slice m.A m.rs.length m.cap) := (hb8.cell (p := ⟨top, 5, none⟩) HXr.out.inside).trans y5
                      have hf2 : (m.rs.length : Int) ≤ 5 := by omega
                      clear hb8 y5 y6 z1 z2 z17
                      go_wp2_with fail
                      refine (indicesC m.rs.length _ (by omega)).mono ?_
                      rintro e w9 ⟨v9, rfl, h9⟩
                      have H9 := Lib.hid h9
                      have HB9 := Lib.hid (HB8.out.trans (h9.2.mono HB8.out.size))
                      clear h9 y5b
                      have HAny := Lib.hid (anyInts top w.heap.size (failQ p.trigs m.rs) m.rs.length v9 w8 w9 H9.out (by omega) (fun i W hi hW => by
                        have hBW := HB9.out.trans (hW.mono HB9.out.size)
                        have hBW2 := HB7.out.trans (hBW.mono HB7.out.size)
                        obtain ⟨r, hr⟩ := Tide.get_some m.rs hi
                        obtain ⟨t, ht⟩ := Tide.get_some p.trigs (show i < p.trigs.length by rw [← HSm.out]; exact hi)
                        have hrd := HMr.out.rds.chg (C := fun _ => False) (Tide.Chg.of_below (B := w.heap.size) hBW2 (Nat.le_refl _)) (fun _ _ h => h)
                        obtain ⟨_, br, offr, eA, d0, _⟩ := hrd.at hr
                        obtain ⟨At, ct, et, hAt⟩ := HLi.out.below hBW2 (Nat.le_refl _)
                        obtain ⟨rfl, _, rfl⟩ := slice_eq et
                        obtain ⟨bt, offt, eAt, _, hct⟩ := hAt (by have := HSm.out; omega)
                        have q5 : W.cell? ⟨top, 5, none⟩ = some (.slice m.A m.rs.length m.cap) := (HXr.out.below hBW HXr.out.inside).here rfl
                        have q17 : W.cell? ⟨w.heap.size, 17, none⟩ = some (.slice A p.trigs.length cap) := (HAt.out.below hBW HAt.out.inside).here rfl
                        have q4 := hct i t 0 _ ht rfl
                        rw [failQ_at ht hr]
                        rw [eA] at q5
                        rw [eAt] at q17
                        exact lbFail i top w.heap.size br offr m.rs.length m.cap bt offt p.trigs.length cap r.failed t.kind W q5 d0 hi q17 q4 (by rw [← HSm.out]; exact hi) (by omega)))
                      obtain ⟨r2, hr2⟩ : ∃ r2, (Tide.firstAt (failQ p.trigs m.rs) (List.range m.rs.length)).isSome = r2 := ⟨_, rfl⟩
                      have HR2 := Lib.hid hr2
                      rw [hr2] at HAny
                      clear hr2
                      go_wp2_with fail
                      refine HAny.out.mono ?_
                      rintro e w10 ⟨rfl, hb10⟩
                      have HB10 := Lib.hid (HB9.out.trans (hb10.mono HB9.out.size))
                      have HFin := Lib.hid (show r2 = true → 1 ≤ N from fun h => HN3.out (.inr (failQ_hit (HR2.out.trans h))))
                      clear hb10 HAny HR2 H9
                      go_wp2_with fail
                      go_meet
                      exact ⟨r2, rfl, Lib.hid ⟨HFin.out, HB10.out⟩⟩
                  case rest =>
                    obtain ⟨fb, rfl, hF⟩ := hcut
                    have HNc := Lib.hid (HN.out.below hF.out.2)
                    have q6 : wc.cell? ⟨top, 6, none⟩ = some (.bool m.busy) := (hF.out.2.cell (p := ⟨top, 6, none⟩) HXr.out.inside).trans y6
                    have q1 : wc.cell? ⟨w.heap.size, 1, none⟩ = some (.int .i64 p.mn) := (hF.out.2.cell (p := ⟨w.heap.size, 1, none⟩) HAt.out.inside).trans z1
                    have q2 : wc.cell? ⟨w.heap.size, 2, none⟩ = some (.int .i64 p.mx) := (hF.out.2.cell (p := ⟨w.heap.size, 2, none⟩) HAt.out.inside).trans z2
                    have HF1 := Lib.hid hF.out.1
                    have HF2 := Lib.hid (show m.busy = true → 1 ≤ N from fun h => HN3.out (.inl h))
                    clear hF HN3 y5 y6 z1 z2 z17 HN
                    generalize m.busy = bz at q6 HF2
                    cases fb <;> cases bz
                    case false.false =>
                      go_wp2_with fail
                      go_roundw
                      case rel => exact ⟨k + 1, false, by omega, by go_num, rfl, HNc⟩
                      case measure => simp [intOf]; omega
                    case false.true =>
                      have n5 := HF2.out rfl
                      go_wp2_with fail
                      go_roundw
                      case rel => exact ⟨k + 1, false, by omega, by go_num, rfl, HNc⟩
                      case measure => simp [intOf]; omega
                    case true.false =>
                      have n5 := HF1.out rfl
                      go_wp2_with fail
                      go_roundw
                      case rel => exact ⟨k + 1, false, by omega, by go_num, rfl, HNc⟩
                      case measure => simp [intOf]; omega
                    case true.true =>
                      have n5 := HF1.out rfl
                      go_wp2_with fail
                      go_roundw
                      case rel => exact ⟨k + 1, false, by omega, by go_num, rfl, HNc⟩
                      case measure => simp [intOf]; omega
            · have h2b : (m.kind != 0) = true := by simpa using h2
              have HN := Lib.hid (show BdAt W2 W5 g p (k + 1) pz from ⟨l, HR.out.top, Lp.ok_up HOk.out, HLp.out, HPz.out⟩)
              clear HR HX h2
              go_wp2_with fail
              go_roundw
              case rel => exact ⟨k + 1, pz, by omega, by go_num, rfl, HN⟩
              case measure => simp [intOf]; omega
        · clear hr hok hlp hpz HK HR3
          go_wp2_with fail
          go_ret
          exact ⟨rfl, HBk.out⟩
  · refine (lopNewNo p A cap W2 (HLi.out.below HB2.out (Nat.le_refl _)) HFt.out HNm.out HPl.out hE).mono ?_
    rintro e w3 ⟨rfl, hb3⟩
    have HBe := Lib.hid (HB2.out.trans (hb3.mono HB2.out.size))
    have hEb : (planE p != 0) = true := by simpa using hE
    have hEc : (planE p == 0) = false := by simpa using hE
    generalize planE p = E at hEb hEc hE ⊢
    clear hb3
    go_wp2_with fail
    go_ret
    exact ⟨rfl, HBe.out⟩
end Go.Proofs.Ytcnoapogeohmkaa
