/- The walk of TopServed. -/
import Derived.Test.YtlfaogkdghnmcaaGreatWldV
import Derived.Test.YtlfaogkdghnmcaaGreatTpD
import Derived.Test.YtlfaogkdghnmcaaGreatTpC
import Derived.Test.YtlfaogkdghnmcaaGreatRestC
import Derived.Deep.DeepCutAuto
import Derived.Deep.RegionHeld3
set_option linter.unusedVariables false
set_option linter.unusedSimpArgs false
namespace Go.Proofs.YtlfaogkdghnmcaaGreat
open Go.RowKit
def notDone (r : Tide.Req) : Bool := !(r.fate == 3)
set_option maxRecDepth 100000 in
set_option maxHeartbeats 800000 in
theorem srvDone (m : Tide.Req) (W : World) : Calls Tryz.prog 44 #[.agg #[.int .i64 m.id, .int .i64 m.source, .int .i64 m.till, .int .i64 m.fate, .int .i64 m.pod]] W fun e W' => e = .returned (.bool (notDone m)) ∧ Below W.heap.size W W' := by
  have HF := Lib.hid (show notDone m = (m.fate != 3) from rfl)
  have HB := Lib.hid ((Below.refl W.heap.size W).alloc (Nat.le_refl _) (.cells #[.int .i64 m.id, .int .i64 m.source, .int .i64 m.till, .int .i64 m.fate, .int .i64 m.pod] 55))
  go_enter Tryz.func44, Tryz.ntmps44
  go_wp2_with fail
  go_ret
  exact ⟨by rw [HF.out] <;> rfl, HB.out⟩
/- slices.IndexFunc at []api.Request, the function tidetop.TopServed$1 -/
set_option maxRecDepth 100000 in
set_option maxHeartbeats 4000000 in
theorem srvP_index  (p : Tide.Req → Bool) (l : List Tide.Req) (v : Value) (w : World) (hv : Tide.ListIn w 5 Tide.Req.enc v l) (hlen : l.length ≤ 100000000)
    (hp : ∀ (m : Tide.Req) (W : World), Below w.heap.size w W → Calls Tryz.prog 44 #[.agg #[.int .i64 m.id, .int .i64 m.source, .int .i64 m.till, .int .i64 m.fate, .int .i64 m.pod]] W fun e W' => e = .returned (.bool (p m)) ∧ Below W.heap.size W W') :
    Calls Tryz.prog 90 #[v, .func (.func 44) #[] #[]] w fun e w' => e = .returned (.int .i64 (Tide.idxOf (Tide.firstAt p l))) ∧ Below w.heap.size w w' := by
  obtain ⟨A, cap, rfl, hA⟩ := hv
  have HA := Lib.hid hA; have HP := Lib.hid hp
  clear hA hp
  go_enter Tryz.func90, Tryz.ntmps90
  go_wp2_with fail
  go_loopw [8] (fun i wr => ∃ k : Nat, k ≤ l.length ∧ i = .int .i64 k ∧ Hid (∀ (t : Nat) (b : Tide.Req), t < k → l[t]? = some b → p b = false) ∧ Below w.heap.size w wr) (fun i _ => l.length - (intOf i).toNat)
  case atStart => exact ⟨0, by omega, rfl, fun t b ht => by omega, Below.refl _ _⟩
  case round =>
    obtain ⟨k, hk, rfl, hno, hb⟩ := hrel
    by_cases hlt : k < l.length
    · obtain ⟨m, hm⟩ := Tide.get_some l hlt
      obtain ⟨b, off, rfl, hbl, hc⟩ := HA.out (by omega)
      have cl : ∀ (j : Nat) (u : Value), m.enc[j]? = some u → wr.cell? ⟨b, off + k * 5 + j, none⟩ = some u := fun j u hu => (hb.cell (p := ⟨b, off + k * 5 + j, none⟩) hbl).trans (hc k m j u hm hu)
      have c0 : wr.cell? ⟨b, off + k * 5, none⟩ = _ := cl 0 _ rfl
      have c1 : wr.cell? ⟨b, off + k * 5 + 1, none⟩ = some (.int .i64 m.source) := cl 1 _ rfl; have c2 : wr.cell? ⟨b, off + k * 5 + 2, none⟩ = some (.int .i64 m.till) := cl 2 _ rfl; have c3 : wr.cell? ⟨b, off + k * 5 + 3, none⟩ = some (.int .i64 m.fate) := cl 3 _ rfl; have c4 : wr.cell? ⟨b, off + k * 5 + 4, none⟩ = some (.int .i64 m.pod) := cl 4 _ rfl
      have i0 : (0 : Int) ≤ (k : Int) := by omega
      have i1 : (k : Int) < (l.length : Int) := by omega
      have HM := Lib.hid hm
      clear hc cl hm
      go_wp2_with fail
      refine (HP.out m _ hb).mono ?_
      rintro e w1 ⟨rfl, hb1⟩
      have HB := Lib.hid (hb.trans (hb1.mono hb.size))
      cases hpm : p m
      · have HN := Lib.hid (show ∀ (t : Nat) (b : Tide.Req), t < k + 1 → l[t]? = some b → p b = false from fun t b ht hb => by
          rcases Nat.lt_succ_iff_lt_or_eq.mp ht with h | h
          · exact hno.out t b h hb
          · subst h; rw [HM.out] at hb; cases hb; exact hpm)
        clear hb hb1 hno hpm
        go_wp2_with fail
        go_roundw
        case rel => exact ⟨k + 1, by omega, by go_num, HN, HB.out⟩
        case measure => simp [intOf]; omega
      · have HN := Lib.hid (Tide.firstAt_some hno.out HM.out hpm)
        clear hb hb1 hno hpm
        go_wp2_with fail
        go_ret
        exact ⟨by rw [HN.out]; rfl, HB.out⟩
    · have hke : k = l.length := by omega
      have HN := Lib.hid (Tide.firstAt_none (p := p) (l := l) (fun t b hb => hno.out t b (by rw [hke]; exact Tide.get_lt hb) hb))
      have HB := Lib.hid hb
      clear hb hno hke
      go_wp2_with fail
      go_ret
      exact ⟨by rw [HN.out]; rfl, HB.out⟩
set_option maxRecDepth 100000 in
set_option maxHeartbeats 1600000 in
theorem srvAll (v : Value) (l : List Tide.Req) (w : World) (hv : Tide.ListIn w 5 Tide.Req.enc v l) (hl : l.length ≤ 200) (hno : l.any notDone = false) :
    Calls Tryz.prog 43 #[v, .func (.func 44) #[] #[]] w fun e w' => e = .returned (.bool false) ∧ Below w.heap.size w w' := by
  have hi := srvP_index notDone l v w hv (by omega) (fun m W _ => srvDone m W)
  have hf : Tide.firstAt notDone l = none := Tide.firstAt_none fun t b hb => by
    rw [List.any_eq_false] at hno
    have := hno b (List.mem_of_getElem? hb)
    simpa using this
  rw [hf, hp_none] at hi
  have HI := Lib.hid hi
  clear hi hf hv hno
  go_enter Tryz.func43, Tryz.ntmps43
  go_wp2_with fail
  refine HI.out.mono ?_
  rintro e w1 ⟨rfl, hb⟩
  have HB := Lib.hid hb
  clear hb
  go_wp2_with fail
  go_ret
  exact ⟨rfl, HB.out⟩
/-- the world, a list beside it -/
structure SvRun (T : TypeId) (k : Nat) (w wr : World) (R : Nat → Prop) (q : Wp) (m : Wo) (v : Value) (n : Nat) (xs : List Value) : Prop where
  wo : WoN R wr q m
  below : Below w.heap.size w wr
  own : ∀ b, b < w.heap.size → R b
  row : Tide.OwnRow R wr T k v n xs
section
variable {T : TypeId} {k n : Nat} {w wr w' : World} {R : Nat → Prop} {q : Wp} {m m' : Wo} {v : Value} {xs : List Value}
theorem SvRun.did (h : SvRun T k w wr R q m v n xs) (hc : WoC R wr w' q m') : SvRun T k w w' R q m' v n xs :=
  { h with wo := hc.1, below := h.below.trans (hc.2.below h.below.size (fun j hj g => g (h.own j hj))), row := h.row.chg hc.2 (fun _ hg hn => hn hg) }
theorem SvRun.made {T : TypeId} {k n : Nat} {v : Value} {xs : List Value} (hw : WoN (fun b => b < w.heap.size) wr q m) (hb : Below w.heap.size w wr) (hr : Tide.OwnRow (fun b => wr.heap.size ≤ b) w' T k v n xs) (hn : Below wr.heap.size wr w') :
    SvRun T k w w' (fun b => b < w.heap.size ∨ (wr.heap.size ≤ b ∧ b < w'.heap.size)) q m v n xs :=
  ⟨hw.grow (Tide.Chg.of_below (S := fun _ => False) hn (Nat.le_refl _)) (fun _ h => h.elim), hb.trans (hn.mono hb.size), fun b hb => .inl hb, hr.mono fun g hg hs => .inr ⟨hs, hg⟩⟩
end
set_option maxRecDepth 100000 in
set_option maxHeartbeats 25600000 in
theorem topServed_walk (many : Int) (wf0 : (Lit.int .i64 many).wf = true) (most : Int) (wf1 : (Lit.int .i64 most).wf = true) (w : World) :
    Calls Tryz.prog 11 #[.int .i64 many, .int .i64 most] w fun e w' => e = .returned (.bool true) ∧ Below w.heap.size w w' := by
  go_enter Tryz.func11, Tryz.ntmps11
  go_wp2_with fail
  refine (topSaid _).mono ?_
  rintro e w1 ⟨rfl, hb1⟩
  have HB1 := Lib.hid hb1
  clear hb1
  go_wp2_with fail
  refine (restC many 20 _ (by decide) (by decide)).mono ?_
  rintro e w' ⟨rfl, rfl⟩
  obtain ⟨N, hN⟩ := Int.eq_ofNat_of_zero_le (show 0 ≤ many % 20 by omega)
  have hN20 : (N : Int) < 20 := by omega
  rw [hN]
  have HN20 := Lib.hid hN20
  clear hN
  have hN0 : (0 : Int) ≤ (N : Int) := by omega
  go_wp2_with fail
  refine (topSome _).mono ?_
  rintro e w2 ⟨b, rfl, hL, hb2⟩
  have HL := Lib.hid hL; have HB2 := Lib.hid (HB1.out.trans (hb2.mono HB1.out.size))
  clear hL hb2 HB1
  go_wp2_with fail
  refine (woNewYes plainP _ _ 1 most 0 _ HL.out plainP_fits (by show 1 ≤ _; omega) plainP_ok (by omega) (by omega) (by omega) (by omega)).mono ?_
  rintro e w3 ⟨q, rfl, hn, hb3⟩
  have HS := Lib.hid (show WoN (fun b => b < w.heap.size) w3 q (askN (newWo plainP 1 most 0) 0) ∧ Below w.heap.size w w3 ∧ Asked (askN (newWo plainP 1 most 0) 0) 0 from ⟨hn.mono fun b hb => Nat.lt_of_lt_of_le hb HB2.out.size, HB2.out.trans (hb3.mono HB2.out.size), asked_new most⟩)
  clear hn hb3 HL HB2
  go_wp2_with fail
  go_loopw [27] (fun i wr => ∃ k : Nat, k ≤ N + 1 ∧ i = .int .i64 k ∧ Hid (WoN (fun b => b < w.heap.size) wr q (askN (newWo plainP 1 most 0) k) ∧ Below w.heap.size w wr ∧ Asked (askN (newWo plainP 1 most 0) k) k)) (fun i _ => N + 1 - (intOf i).toNat)
  case atStart => exact ⟨0, Nat.zero_le _, rfl, HS⟩
  case round =>
    clear HS
    obtain ⟨k, hk, rfl, HK⟩ := hrel
    by_cases hkn : k < N + 1
    · have k0 : (0 : Int) ≤ (k : Int) := by omega
      have k1 : (k : Int) < (N : Int) + 1 := by omega
      have HE := Lib.hid (asked_next HK.out.2.2 (by have := HN20.out; omega))
      go_wp2_with fail
      refine (woDo 11 2 1000 HK.out.1 HK.out.2.2.ok (by omega) (by omega) (by omega)).mono ?_
      rintro e w4 ⟨rfl, hc⟩
      rw [HE.out.1]
      have HNx := Lib.hid (show WoN (fun b => b < w.heap.size) w4 q (askN (newWo plainP 1 most 0) (k + 1)) ∧ Below w.heap.size w w4 ∧ Asked (askN (newWo plainP 1 most 0) (k + 1)) (k + 1) from ⟨hc.1, HK.out.2.1.trans (hc.2.below HK.out.2.1.size (fun i hi h => h hi)), HE.out.2⟩)
      clear hc HK HE
      go_wp2_with fail
      go_roundw
      case rel => exact ⟨k + 1, by omega, by go_num, HNx⟩
      case measure => simp [intOf]; omega
    · have hke : N + 1 = k := by omega
      have HS := Lib.hid (show ∃ x : Wo × Int, x.2 = 1 ∧ WoN (fun b => b < w.heap.size) wr q x.1 ∧ Below w.heap.size w wr ∧ Rounds (N + 1) 0 x from ⟨(_, 1), rfl, HK.out.1, HK.out.2.1, by rw [hke]; exact rounds_zero HK.out.2.2 (by omega)⟩)
      have kz : (N : Int) + 1 ≤ (k : Int) := by omega
      clear HK hke hkn hk
      go_wp2_with fail
      go_loopw [8, 36] (fun nx i wr => ∃ j : Nat, j ≤ N + 6 ∧ i = .int .i64 j ∧ ∃ z : Int, nx = .int .i64 z ∧ Hid (∃ x : Wo × Int, x.2 = z ∧ WoN (fun b => b < w.heap.size) wr q x.1 ∧ Below w.heap.size w wr ∧ Rounds (N + 1) j x)) (fun _ i _ => N + 6 - (intOf i).toNat)
      case atStart => exact ⟨0, Nat.zero_le _, rfl, 1, rfl, HS⟩
      case round =>
        clear HS
        obtain ⟨j, hj, rfl, z, rfl, HJ⟩ := hrel
        by_cases hjn : j < N + 6
        · have j0 : (0 : Int) ≤ (j : Int) := by omega
          have j1 : (j : Int) < (N : Int) + 1 + 5 := by omega
          obtain ⟨x, hx, hw, hb, hr⟩ := HJ.out
          have hA := round_amid hr (by have := HN20.out; omega) (by omega) (by have := HN20.out; omega)
          have HA := Lib.hid hA.2; have HO1 := Lib.hid hA.1; have HOk := Lib.hid hr.ok
          have HW := Lib.hid hw; have HB := Lib.hid hb
          have HRd := Lib.hid (show ∀ m2, Amid (N + 1) j m2 → (∀ (i : Nat) (r : Tide.Req), m2.b[i]? = some r → r.fate = 2 → r.id = ((m2.b.take i).foldl reqStep (m2, z)).2 ∧ doE ((m2.b.take i).foldl reqStep (m2, z)).1 12 0 r.id = 0) ∧ (∀ i : Nat, ((m2.b.take i).foldl reqStep (m2, z)).1.ok (j + 1)) ∧ Rounds (N + 1) (j + 1) (m2.b.foldl reqStep (m2, z)) from fun m2 hm => by
            have := round_reqs hr hm (by have := HN20.out; omega); rw [hx] at this; exact this)
          have HLj := Lib.hid (show j + 1 ≤ 88000 by have := HN20.out; omega)
          clear HJ hx hw hb hr hA
          generalize x.1 = m0 at HA HO1 HOk HW
          go_wp2_with fail
          refine (topTick 1 _).mono ?_
          rintro e w5 ⟨rfl, hb5⟩
          have HW5 := Lib.hid (HW.out.below hb5)
          have HB5 := Lib.hid (HB.out.trans (hb5.mono HB.out.size))
          clear hb5 HW HB
          go_wp2_with fail
          refine (woDo 1 0 1 HW5.out HOk.out (by omega) (by decide) (by decide)).mono ?_
          rintro e w6 ⟨rfl, hc⟩
          have HW6 := Lib.hid hc.1
          have HB6 := Lib.hid (HB5.out.trans (hc.2.below HB5.out.size (fun i hi h => h hi)))
          clear hc HW5 HB5 HOk
          generalize doW m0 1 0 1 = m1 at HA HO1 HW6
          go_wp2_with fail
          refine (woPodsOf HW6.out).mono ?_
          rintro e w7 ⟨v, rfl, ho, hb7⟩
          obtain ⟨A, cap, rfl, _⟩ := ho.slice
          obtain ⟨R, HS⟩ : ∃ R, Hid (SvRun 59 3 w w7 R q m1 (.slice A m1.f.length cap) m1.f.length (m1.f.flatMap Tide.Pod.enc)) := ⟨_, Lib.hid (SvRun.made HW6.out HB6.out ho hb7)⟩
          have HIds := Lib.hid (show ∀ p ∈ m1.f, -9223372036854775808 ≤ p.id ∧ p.id ≤ 9223372036854775807 from fun p hp => by
            have h1 := HO1.out.crew.ids p hp; have h2 := HO1.out.fl1; have := HLj.out; omega)
          have HFl := Lib.hid (show (m1.f.length : Int) ≤ 100000000 by have := HO1.out.fn; have := HLj.out; omega)
          clear ho hb7 HW6 HB6
          go_wp2_with fail
          go_loopw [44] (fun i wr => ∃ k : Nat, k ≤ m1.f.length ∧ i = .int .i64 k ∧ Hid (SvRun 59 3 w wr R q ((m1.f.take k).foldl podStep m1) (.slice A m1.f.length cap) m1.f.length (m1.f.flatMap Tide.Pod.enc))) (fun i _ => m1.f.length - (intOf i).toNat)
          case atStart => exact ⟨0, Nat.zero_le _, rfl, HS⟩
          case round =>
            clear HS
            obtain ⟨k, hk, rfl, HK⟩ := hrel
            by_cases hkl : k < m1.f.length
            · have k0 : (0 : Int) ≤ (k : Int) := by omega
              have k1 : (k : Int) < (m1.f.length : Int) := by omega
              have hfl := HFl.out
              obtain ⟨p, hp⟩ := Tide.get_some m1.f hkl
              have HStep := Lib.hid (Tide.fold_snoc (f := podStep) (x := m1) hp)
              obtain ⟨p0, p1⟩ := HIds.out p (List.mem_of_getElem? hp)
              obtain ⟨b, cap', e, hbl, c0, c1, c2⟩ := pod_cells HK.out.row hp
              obtain ⟨rfl, _, rfl⟩ := slice_eq e
              obtain ⟨hq1, hq2⟩ := HK.out.wo.boxed (.cells #[.int .i64 p.id, .int .i64 p.state, .int .i64 p.load] 59)
              have HN := Lib.hid hq1; have HBx := Lib.hid hq2
              have HX := Lib.hid (Tide.At.made wr 59 #[.int .i64 p.id, .int .i64 p.state, .int .i64 p.load])
              have HOm := Lib.hid (ok_pods (l := m1.f.take k) HO1.out)
              generalize (m1.f.take k).foldl podStep m1 = mk at HStep HK HN HOm
              clear hp hq1 hq2 e
              go_wp2_with fail
              refine (woDo 8 0 p.id HN.out HOm.out HLj.out p0 p1).mono ?_
              rintro e w8 ⟨rfl, hc1⟩
              have HC1 := Lib.hid hc1
              have HX8 := Lib.hid (At.kept HX.out hc1.2 (.inr rfl))
              clear c0 c1 c2 hc1
              have y0 := HX8.out.here (i := 0) rfl
              go_wp2_with fail
              refine (woDo 9 0 p.id HC1.out.1 (okStart HOm.out p.id) HLj.out p0 p1).mono ?_
              rintro e w9 ⟨rfl, hc2⟩
              have HNx := Lib.hid (show SvRun 59 3 w w9 R q ((m1.f.take (k + 1)).foldl podStep m1) _ m1.f.length (m1.f.flatMap Tide.Pod.enc) from by
                rw [HStep.out]
                exact HK.out.did (WoC.unbox HBx.out (WoC.trans HC1.out.2 hc2)))
              clear hc2 y0 HC1 HX8 HK HN HBx HX HStep
              go_wp2_with fail
              go_roundw
              case rel => exact ⟨k + 1, by omega, by go_num, HNx⟩
              case measure => simp [intOf]; omega
            · have hke : k = m1.f.length := by omega
              subst hke
              have hK := HK.out
              rw [List.take_length] at hK
              have HW8 := Lib.hid (hK.wo.mono (R' := fun b => b < w.heap.size) hK.own)
              have HB8 := Lib.hid hK.below
              clear hK HK HO1 HIds
              generalize m1.f.foldl podStep m1 = m2 at HA HW8
              have HRq := Lib.hid (HRd.out m2 HA.out)
              have HBn := Lib.hid (show (m2.b.length : Int) ≤ 200 by have := HA.out.ok.bn; omega)
              have HNum := Lib.hid HA.out.ok.fair.num
              clear HRd HA
              go_wp2_with fail
              refine (woReqsOf HW8.out).mono ?_
              rintro e wa ⟨v, rfl, ho, hba⟩
              obtain ⟨A, cap, rfl, _⟩ := ho.slice
              obtain ⟨R, HS⟩ : ∃ R, Hid (SvRun 55 5 w wa R q m2 (.slice A m2.b.length cap) m2.b.length (m2.b.flatMap Tide.Req.enc)) := ⟨_, Lib.hid (SvRun.made HW8.out HB8.out ho hba)⟩
              clear ho hba HW8 HB8
              go_wp2_with fail
              go_loopw [8, 62] (fun nx i wr => ∃ k : Nat, k ≤ m2.b.length ∧ i = .int .i64 k ∧ nx = .int .i64 ((m2.b.take k).foldl reqStep (m2, z)).2 ∧ Hid (SvRun 55 5 w wr R q ((m2.b.take k).foldl reqStep (m2, z)).1 (.slice A m2.b.length cap) m2.b.length (m2.b.flatMap Tide.Req.enc))) (fun _ i _ => m2.b.length - (intOf i).toNat)
              case atStart => exact ⟨0, Nat.zero_le _, rfl, rfl, HS⟩
              case round =>
                clear HS
                obtain ⟨k, hk, rfl, rfl, HK⟩ := hrel
                by_cases hkl : k < m2.b.length
                · have k0 : (0 : Int) ≤ (k : Int) := by omega
                  have k1 : (k : Int) < (m2.b.length : Int) := by omega
                  have hbn := HBn.out
                  obtain ⟨r, hr⟩ := Tide.get_some m2.b hkl
                  have HStep := Lib.hid (Tide.fold_snoc (f := reqStep) (x := (m2, z)) hr)
                  have hrq := HRq.out.1 k r hr
                  have hid := (HNum.out k r hr).1
                  have HOm := Lib.hid (HRq.out.2.1 k)
                  obtain ⟨b, cap', e, hbl, c0, c1, c2, c3, c4⟩ := req_cells HK.out.row hr
                  obtain ⟨rfl, _, rfl⟩ := slice_eq e
                  obtain ⟨hq1, hq2⟩ := HK.out.wo.boxed (.cells #[.int .i64 r.id, .int .i64 r.source, .int .i64 r.till, .int .i64 r.fate, .int .i64 r.pod] 55)
                  have HN := Lib.hid hq1; have HBx := Lib.hid hq2
                  have HKb := Lib.hid (show m2.b.length ≤ 200 by have := HBn.out; omega)
                  generalize (m2.b.take k).foldl reqStep (m2, z) = Y at hrq HStep HK HN HOm ⊢
                  clear hq1 hq2 e
                  by_cases h2 : r.fate = 2
                  · obtain ⟨e1, e2⟩ := hrq h2
                    have HE := Lib.hid e2
                    have HStp := Lib.hid (show (m2.b.take (k + 1)).foldl reqStep (m2, z) = (doW Y.1 12 0 r.id, Y.2 + 1) by rw [HStep.out]; unfold reqStep; rw [if_pos h2])
                    have HX := Lib.hid (Tide.At.made wr 55 #[.int .i64 r.id, .int .i64 r.source, .int .i64 r.till, .int .i64 r.fate, .int .i64 r.pod])
                    rw [← e1] at HStp ⊢
                    rw [h2] at c3 HN HBx HX
                    have hne : (r.id != r.id) = false := by simp
                    have i0 : 1 ≤ r.id := by omega
                    have i1 : r.id ≤ 200 := by have := HKb.out; omega
                    clear HStep hr hrq e1 e2 h2 hid
                    go_wp2_with fail
                    refine (woDo 12 0 r.id HN.out HOm.out HLj.out (by omega) (by omega)).mono ?_
                    rintro e wb ⟨rfl, hc⟩
                    rw [HE.out]
                    have HNx := Lib.hid (show SvRun 55 5 w wb R q ((m2.b.take (k + 1)).foldl reqStep (m2, z)).1 _ m2.b.length (m2.b.flatMap Tide.Req.enc) from by
                      rw [HStp.out]
                      exact HK.out.did (WoC.unbox HBx.out hc))
                    have HE4 := Lib.hid (show ((m2.b.take (k + 1)).foldl reqStep (m2, z)).2 = r.id + 1 by rw [HStp.out])
                    clear hc HK HN HBx HX HStp HE c0 c1 c2 c3 c4
                    go_wp2_with fail
                    go_roundw
                    case rel => exact ⟨k + 1, by omega, by go_num, by rw [HE4.out] <;> go_num, HNx⟩
                    case measure => simp [intOf]; omega
                  · have hfb : (r.fate == 2) = false := by simpa using h2
                    have HNx := Lib.hid (show SvRun 55 5 w (wr.alloc (.cells #[.int .i64 r.id, .int .i64 r.source, .int .i64 r.till, .int .i64 r.fate, .int .i64 r.pod] 55)) R q ((m2.b.take (k + 1)).foldl reqStep (m2, z)).1 _ m2.b.length (m2.b.flatMap Tide.Req.enc) from by
                      rw [HStep.out]
                      have e3 : reqStep Y r = Y := by unfold reqStep; rw [if_neg h2]
                      rw [e3]
                      exact HK.out.did ⟨HN.out.mono fun _ h => .inl h, HBx.out⟩)
                    have e4 : ((m2.b.take (k + 1)).foldl reqStep (m2, z)).2 = Y.2 := by
                      rw [HStep.out]; unfold reqStep; rw [if_neg h2]
                    have HE4 := Lib.hid e4
                    clear e4 HStep hr hrq h2 HK HN HBx hid
                    go_wp2_with fail
                    go_roundw
                    case rel => exact ⟨k + 1, by omega, by go_num, by rw [HE4.out], HNx⟩
                    case measure => simp [intOf]; omega
                · have hke : k = m2.b.length := by omega
                  subst hke
                  have hK := HK.out
                  have hR := HRq.out.2.2
                  rw [List.take_length] at hK ⊢
                  generalize m2.b.foldl reqStep (m2, z) = Y at hK hR ⊢
                  have HNx := Lib.hid (show ∃ x : Wo × Int, x.2 = Y.2 ∧ WoN (fun b => b < w.heap.size) wr q x.1 ∧ Below w.heap.size w wr ∧ Rounds (N + 1) (j + 1) x from ⟨Y, rfl, hK.wo.mono hK.own, hK.below, hR⟩)
                  clear hK hR HK HRq
                  go_wp2_with fail
                  go_roundw
                  case rel => exact ⟨j + 1, by omega, by go_num, Y.2, rfl, HNx⟩
                  case measure => simp [intOf]; omega
        · have hje : j = N + 6 := by omega
          subst hje
          obtain ⟨x, hx, hw, hb, hr⟩ := HJ.out
          have HW := Lib.hid hw; have HB := Lib.hid hb; have HLast := Lib.hid (hr.last (by omega))
          have HOk := Lib.hid hr.ok
          clear HJ hx hw hb hr
          generalize x.1 = m at HW HLast HOk
          go_wp2_with fail
          refine (woReqsOf HW.out).mono ?_
          rintro e w5 ⟨v, rfl, ho, hb5⟩
          have HLi := Lib.hid (ho.list Tide.Req.enc_length)
          have HB5 := Lib.hid (HB.out.trans (hb5.mono HB.out.size))
          clear ho hb5
          go_wp2_with fail
          refine (srvAll _ m.b _ HLi.out HOk.out.bn (by rw [HLast.out]; exact reqs_all)).mono ?_
          rintro e w6 ⟨rfl, hb6⟩
          have HF := Lib.hid (HB5.out.trans (hb6.mono HB5.out.size))
          clear hb6
          go_wp2_with fail
          go_ret
          exact ⟨rfl, HF.out⟩
end Go.Proofs.YtlfaogkdghnmcaaGreat
