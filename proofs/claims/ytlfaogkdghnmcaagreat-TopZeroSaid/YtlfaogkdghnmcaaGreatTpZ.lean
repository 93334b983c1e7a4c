/- The walk of TopZero. -/
import Derived.Test.YtlfaogkdghnmcaaGreatTpY
import Derived.Test.YtlfaogkdghnmcaaGreatKeySet
import Derived.Maps.Keyed
import Derived.Deep.DeepCutAuto
import Derived.Deep.RegionHeld3
set_option linter.unusedVariables false
set_option linter.unusedSimpArgs false
namespace Go.Proofs.YtlfaogkdghnmcaaGreat
open Go.RowKit Go.Maps
theorem zer_key : Keyed Tryz.prog 3 := int_keyed Tryz.underlying3
/-- the world in its box, the plan in its own, and the set beside -/
structure ZeRun (w wr : World) (B : Nat) (cs : Array Value) (q : Wp) (m : Wo) (bw bm n : Nat) (ks : List Int) : Prop where
  wo : WoN (fun b => b < B ∨ b = bw ∨ b = bm) wr q m
  below : Below w.heap.size w wr
  box : Tide.At wr bw 38 #[.pointer (some ⟨q.g, 0, none⟩)]
  plan : Tide.At wr w.heap.size 29 cs
  set : Tide.KeySet Tryz.prog 3 4 wr bm n ks
  hB : w.heap.size < B
  hw : B ≤ bw
  hm : bw < bm
section
variable {w wr w' : World} {B : Nat} {cs : Array Value} {q : Wp} {m m' : Wo} {bw bm n n' : Nat} {ks ks' : List Int}
theorem ZeRun.fresh (h : ZeRun w wr B cs q m bw bm n ks) (hb : Below wr.heap.size wr w') : ZeRun w w' B cs q m bw bm n ks :=
  { h with wo := h.wo.below hb, below := h.below.trans (hb.mono h.below.size), box := h.box.below hb h.box.inside, plan := h.plan.below hb h.plan.inside, set := h.set.chg (Tide.Chg.of_below (S := fun _ => False) hb (Nat.le_refl _)) (fun h => h) }
theorem ZeRun.alloc (h : ZeRun w wr B cs q m bw bm n ks) (o : Obj) : ZeRun w (wr.alloc o) B cs q m bw bm n ks := h.fresh ((Below.refl _ _).alloc (Nat.le_refl _) o)
theorem ZeRun.drewN (h : ZeRun w wr B cs q m bw bm n ks) (k : Nat) : ZeRun w (wr.drewN k) B cs q m bw bm n ks := h.fresh ⟨rfl, rfl, rfl, Nat.le_refl _, fun _ _ => rfl⟩
theorem ZeRun.drew (h : ZeRun w wr B cs q m bw bm n ks) : ZeRun w wr.drew B cs q m bw bm n ks := h.fresh ⟨rfl, rfl, rfl, Nat.le_refl _, fun _ _ => rfl⟩
theorem ZeRun.put (h : ZeRun w wr B cs q m bw bm n ks) (hp : Tide.KeySet Tryz.prog 3 4 w' bm n' ks') (hc : Tide.Chg (fun b => b = bm) wr w') : ZeRun w w' B cs q m bw bm n' ks' :=
  { h with wo := (h.wo.grow hc (fun b e => .inr (.inr e))).mono fun b hb => .inl hb, below := h.below.trans (hc.below h.below.size (fun b hb e => by have := h.hB; have := h.hw; have := h.hm; omega)), box := h.box.chg hc (fun e => by have := h.hm; omega), plan := h.plan.chg hc (fun e => by have := h.hB; have := h.hw; have := h.hm; omega), set := hp }
theorem ZeRun.did (h : ZeRun w wr B cs q m bw bm n ks) (hc : WoC (fun b => b < B ∨ b = bw ∨ b = bm) wr w' q m') : ZeRun w w' B cs q m' bw bm n ks :=
  { h with wo := hc.1, below := h.below.trans (hc.2.below h.below.size (fun j hj k => k (.inl (by have := h.hB; omega)))), box := At.kept h.box hc.2 (.inr (.inl rfl)), plan := At.kept h.plan hc.2 (.inl h.hB), set := h.set.chg hc.2 (fun k => k (.inr (.inr rfl))) }
theorem ZeRun.more (h : ZeRun w wr B cs q m bw bm n ks) (hn : n ≤ n') : ZeRun w wr B cs q m bw bm n' ks := { h with set := h.set.mono hn }
end
theorem zerTarget {R : Nat → Prop} {p : Wp} {m : Wo} {w : World} (h : WoN R w p m) : Calls Tryz.prog 19 #[.pointer (some ⟨p.g, 0, none⟩)] w fun e w' => e = .returned (.int .i64 m.target) ∧ w' = w :=
  (woTarget h).mono fun _ _ ⟨a, b⟩ => ⟨a, b.symm⟩
set_option maxRecDepth 100000 in
set_option maxHeartbeats 25600000 in
theorem topZero_walk (p : Pln) (A : Option Addr) (cap : Nat) (parts most sec : Int) (A1 : Option Addr) (cap1 : Nat) (l : List (List Int)) (w : World) (ht : Tide.ListIn w 17 Trg.enc (.slice A p.trigs.length cap) p.trigs) (hf : ∀ t ∈ p.trigs, t.fits) (hn : p.name.size ≤ 9223372036854775807) (hl : p.trigs.length ≤ 9223372036854775807)
    (hr : ∀ row ∈ l, row.length = 3 ∧ ∀ x ∈ row, -9223372036854775808 ≤ x ∧ x ≤ 9223372036854775807) (hA : RowsAt w 3 A1 l) (hl1 : l.length ≤ 9223372036854775807) :
    Calls Tryz.prog 12 #[plnV p (.slice A p.trigs.length cap), .int .i64 parts, .int .i64 most, .int .i64 sec, .slice A1 l.length cap1] w fun e w' => e = .returned (.bool true) ∧ Below w.heap.size w w' := by
  have HB := Lib.hid ((Below.refl w.heap.size w).alloc (Nat.le_refl _) (.cells (plnC p (.slice A p.trigs.length cap)) 29))
  have HX := Lib.hid (Tide.At.made w 29 (plnC p (.slice A p.trigs.length cap)))
  have HC := Lib.hid (fun (W : World) (hb : Below w.heap.size w W) => anyNew p A cap parts most sec W (ht.below hb (Nat.le_refl _)) hf hn hl)
  have HTr := Lib.hid ht
  have HA := Lib.hid hA; have HRw := Lib.hid hr
  clear ht hf hn hl hA hr
  have hmm := @run_makeMap Tryz.prog
  unfold plnV
  unfold plnC at HB HX
  go_enter Tryz.func12, Tryz.ntmps12
  go_upto_region 1 with fail
  generalize w.alloc (.cells #[.string p.name, .int .i64 p.mn, .int .i64 p.mx, .int .i64 p.poll, .int .i64 p.cool, .int .i64 p.tol, .int .i64 p.back, .int .i64 p.after, .int .i64 p.shift, .int .i64 p.up.win, .int .i64 p.up.pods, .int .i64 p.up.pct, .int .i64 p.up.per, .int .i64 p.down.win, .int .i64 p.down.pods, .int .i64 p.down.pct, .int .i64 p.down.per, .slice A p.trigs.length cap] 29) = W at HB HX ⊢
  go_wp2_with fail
  refine (topSaid _).mono ?_
  rintro e w1 ⟨rfl, hb1⟩
  have HB1 := Lib.hid (HB.out.trans (hb1.mono HB.out.size))
  have HX1 := Lib.hid (HX.out.below hb1 HX.out.inside)
  have HC1 := Lib.hid (HC.out _ HB1.out)
  clear hb1 HX HC HB
  go_wp2_with (refine wpList_load_row rfl 29 (.tmp 5) rfl w.heap.size rfl 29 _ (0, 0) _ HX1.out Tryz.underlying29 rfl (by kernel_rfl) ?_)
  refine HC1.out.mono ?_
  intro e w2 hp
  clear HC1
  cases hp with
  | bad _ E he h0 hb =>
    have hb1 : (E != 0) = true := by simpa using h0
    have HF := Lib.hid (HB1.out.trans (hb.mono HB1.out.size))
    clear he h0 hb
    go_wp2_with fail
    go_ret
    exact ⟨rfl, HF.out.alloc HF.out.size _⟩
  | good _ q he hn hok hb =>
    have hB2 := HB1.out.trans (hb.mono HB1.out.size)
    by_cases h60 : 60 < l.length
    · have HF := Lib.hid hB2
      have h60' : (60 : Int) < (l.length : Int) := by omega
      clear he hn hok hb hB2 h60
      go_wp2_with fail
      go_ret
      exact ⟨rfl, HF.out.alloc HF.out.size _⟩
    · have h60' : (l.length : Int) ≤ 60 := by omega
      have HL60 := Lib.hid (show l.length ≤ 60 by omega)
      have HZ := Lib.hid (show w.heap.size < w1.heap.size from HX1.out.inside)
      have HZ2 := Lib.hid (show w1.heap.size ≤ w2.heap.size from hb.size)
      have HOk := Lib.hid hok
      have HPE := Lib.hid (show planE p = 0 by
        unfold newE at he
        by_cases c : planE p = 0
        · exact c
        · rw [if_pos c] at he; exact absurd he c)
      obtain ⟨hb1, hx1⟩ := hn.boxed (.cells #[.pointer (some ⟨q.g, 0, none⟩)] 38)
      have HX2 := Lib.hid ((HX1.out.below hb HX1.out.inside).alloc (.cells #[.pointer (some ⟨q.g, 0, none⟩)] 38))
      have HBo := Lib.hid (Tide.At.made w2 38 #[.pointer (some ⟨q.g, 0, none⟩)])
      have HB2 := Lib.hid (hB2.alloc hB2.size (.cells #[.pointer (some ⟨q.g, 0, none⟩)] 38))
      have HN2 := Lib.hid hb1
      clear he hn hok hb hB2 h60 HB1 HX1 hb1 hx1
      go_upto_region 4 with fail
      generalize w2.alloc (.cells #[.pointer (some ⟨q.g, 0, none⟩)] 38) = w3 at HX2 HBo HB2 HN2 ⊢
      go_wp2_with fail
      refine (topPaused A1 cap1 l _ HRw.out (HA.out.below HB2.out (Nat.le_refl _)) (by have := HL60.out; omega)).mono ?_
      rintro e w4 ⟨rfl, hb4⟩
      cases hpz : pausedB l
      case true =>
        have HF := Lib.hid (HB2.out.trans (hb4.mono HB2.out.size))
        clear hb4
        go_wp2_with fail
        go_ret
        exact ⟨rfl, HF.out⟩
      case false =>
        have HNo := Lib.hid hpz
        have HBo4 := HBo.out.below hb4 HBo.out.inside
        have hB4 := HB2.out.trans (hb4.mono HB2.out.size)
        obtain ⟨hm1, hm2⟩ := (HN2.out.below hb4).boxed (.map #[] 0)
        have HS := Lib.hid (show ∃ m ks, ZeRun w (w4.alloc (.map #[] 0)) w1.heap.size #[.string p.name, .int .i64 p.mn, .int .i64 p.mx, .int .i64 p.poll, .int .i64 p.cool, .int .i64 p.tol, .int .i64 p.back, .int .i64 p.after, .int .i64 p.shift, .int .i64 p.up.win, .int .i64 p.up.pods, .int .i64 p.up.pct, .int .i64 p.up.per, .int .i64 p.down.win, .int .i64 p.down.pods, .int .i64 p.down.pct, .int .i64 p.down.per, .slice A p.trigs.length cap] q m w2.heap.size w4.heap.size 0 ks ∧ m.ok (1000 * 0) ∧ Bds p m ∧ Marks p m.fails ks from
          ⟨_, [], ⟨hm1.mono fun b hb => by
              rcases hb with hb | hb | hb
              · exact .inl (.inl hb)
              · exact .inl (.inr hb)
              · exact .inr hb, hB4.alloc hB4.size _, HBo4.alloc _, (HX2.out.below hb4 HX2.out.inside).alloc _, Tide.KeySet.made _ _ _ _, HZ.out, HZ2.out, HBo4.inside⟩, HOk.out, bds_new HPE.out, fun k hk => by cases hk⟩)
        clear hpz hb4 HBo4 hB4 hm1 hm2 HX2 HBo HB2 HN2 HOk
        go_upto_region 7 with fail
        generalize w4.alloc (.map #[] 0) = w5 at HS ⊢
        generalize w4.heap.size = bm at HS ⊢
        go_wp2_with fail
        go_loopw [42] (fun i wr => ∃ k : Nat, k ≤ l.length ∧ i = .int .i64 k ∧ Hid (∃ m ks, ZeRun w wr w1.heap.size #[.string p.name, .int .i64 p.mn, .int .i64 p.mx, .int .i64 p.poll, .int .i64 p.cool, .int .i64 p.tol, .int .i64 p.back, .int .i64 p.after, .int .i64 p.shift, .int .i64 p.up.win, .int .i64 p.up.pods, .int .i64 p.up.pct, .int .i64 p.up.per, .int .i64 p.down.win, .int .i64 p.down.pods, .int .i64 p.down.pct, .int .i64 p.down.per, .slice A p.trigs.length cap] q m w2.heap.size bm k ks ∧ m.ok (1000 * k) ∧ Bds p m ∧ Marks p m.fails ks)) (fun i _ => l.length - (intOf i).toNat)
        case atStart => exact ⟨0, Nat.zero_le _, rfl, HS⟩
        case round =>
          clear HS
          obtain ⟨k, hk, rfl, HK⟩ := hrel
          obtain ⟨m, ks, hK⟩ := HK.out
          have HKm := Lib.hid hK
          clear hK HK
          by_cases hlt : k < l.length
          · obtain ⟨b, off, x, y, z, rfl, c0, c1, c2, hrow, ⟨z0, z1⟩, hbl⟩ := hap_row HA.out HRw.out HKm.out.1.below hlt
            have hk0 : (0 : Int) ≤ (k : Int) := by omega
            have hk1 : (k : Int) < (l.length : Int) := by omega
            have hk60 : k < 60 := by have := HL60.out; omega
            have HX13 := Lib.hid (paused_no HNo.out hrow)
            have hx2 := HKm.out.1.box.here (i := 0) rfl
            have hx3 := HKm.out.1.box.inside
            by_cases hx : x = 1
            · have HA1 := Lib.hid (HKm.out.1.alloc (.cells #[.int .i64 x, .int .i64 y, .int .i64 z] 44))
              have HKk := Lib.hid HKm.out.2
              have hxb : (x == 1) = true := by simpa using hx
              clear hrow HKm hx hx2 hx3
              have HXb := Lib.hid (Tide.At.made wr 44 #[.int .i64 x, .int .i64 y, .int .i64 z])
              go_upto_region 11 with fail
              generalize wr.alloc (.cells #[.int .i64 x, .int .i64 y, .int .i64 z] 44) = w6 at HA1 HXb ⊢
              generalize wr.heap.size = gx at HXb ⊢
              have z2 := HXb.out.here (i := 2) rfl
              clear c0 c1 c2
              go_cut [52, 53] (fun s52 s53 wx => ∃ n : Nat, n ≤ 40 ∧ s52 = .int .i64 n ∧ s53 = .int .i64 0 ∧ w6 = wx)
              case first =>
                by_cases y0 : z < 0
                · go_wp2_with fail
                  go_meet
                  exact ⟨0, by omega, rfl, rfl, rfl⟩
                by_cases y1 : z ≤ 40
                · obtain ⟨n, rfl⟩ := Int.eq_ofNat_of_zero_le (show 0 ≤ z by omega)
                  go_wp2_with fail
                  go_meet
                  exact ⟨n, by omega, rfl, rfl, rfl⟩
                · have y2 : 40 < z := by omega
                  go_wp2_with fail
                  go_meet
                  exact ⟨40, by omega, rfl, rfl, rfl⟩
              case rest =>
                obtain ⟨n, hn40, rfl, rfl, rfl⟩ := hcut
                have HS6 := Lib.hid (show ∃ m, ZeRun w w6 w1.heap.size #[.string p.name, .int .i64 p.mn, .int .i64 p.mx, .int .i64 p.poll, .int .i64 p.cool, .int .i64 p.tol, .int .i64 p.back, .int .i64 p.after, .int .i64 p.shift, .int .i64 p.up.win, .int .i64 p.up.pods, .int .i64 p.up.pct, .int .i64 p.up.per, .int .i64 p.down.win, .int .i64 p.down.pods, .int .i64 p.down.pct, .int .i64 p.down.per, .slice A p.trigs.length cap] q m w2.heap.size bm k ks ∧ m.ok (1000 * k + 0) ∧ Bds p m ∧ Marks p m.fails ks from ⟨m, HA1.out, HKk.out⟩)
                clear HA1 HKk z2 HXb
                go_wp2_with fail
                go_loopw [53] (fun i wr => ∃ j : Nat, j ≤ n ∧ i = .int .i64 j ∧ Hid (∃ m, ZeRun w wr w1.heap.size #[.string p.name, .int .i64 p.mn, .int .i64 p.mx, .int .i64 p.poll, .int .i64 p.cool, .int .i64 p.tol, .int .i64 p.back, .int .i64 p.after, .int .i64 p.shift, .int .i64 p.up.win, .int .i64 p.up.pods, .int .i64 p.up.pct, .int .i64 p.up.per, .int .i64 p.down.win, .int .i64 p.down.pods, .int .i64 p.down.pct, .int .i64 p.down.per, .slice A p.trigs.length cap] q m w2.heap.size bm k ks ∧ m.ok (1000 * k + j) ∧ Bds p m ∧ Marks p m.fails ks)) (fun i _ => n - (intOf i).toNat)
                case atStart => exact ⟨0, Nat.zero_le _, rfl, HS6⟩
                case round =>
                  clear HS6
                  obtain ⟨j, hj, rfl, HJ⟩ := hrel
                  obtain ⟨m, hJ⟩ := HJ.out
                  have HJm := Lib.hid hJ
                  clear hJ HJ
                  by_cases hjn : j < n
                  · have j0 : (0 : Int) ≤ (j : Int) := by omega
                    have j1 : (j : Int) < (n : Int) := by omega
                    have b0 := HJm.out.1.box.here (i := 0) rfl
                    go_wp2_with fail
                    refine (zerTarget HJm.out.1.wo).mono ?_
                    rintro e w' ⟨rfl, rfl⟩
                    go_wp2_with fail
                    refine (woReqsOf HJm.out.1.wo).mono ?_
                    rintro e w7 ⟨v, rfl, ho, hb7⟩
                    obtain ⟨A3, cap3, rfl, _⟩ := ho.slice
                    have H7 := Lib.hid (HJm.out.1.fresh hb7)
                    have HLi := Lib.hid (ho.list Tide.Req.enc_length)
                    obtain ⟨bz, hbz⟩ : ∃ bz, m.b.any (stillR (m.now + 1)) = bz := ⟨_, rfl⟩
                    have HAny := Lib.hid (zerAny w2.heap.size _ w7 H7.out.wo HJm.out.2.1.now0 HJm.out.2.1.now1 H7.out.box.inside (H7.out.box.here rfl) HLi.out HJm.out.2.1.bn)
                    rw [hbz] at HAny
                    have HSay := Lib.hid (fun hw hz => tick_says HJm.out.2.1 HJm.out.2.2.1 HJm.out.2.2.2 hw hz)
                    rw [hbz] at HSay
                    have HNx := Lib.hid (show (doW m 1 0 1).ok (1000 * k + (j + 1)) ∧ Bds p (doW m 1 0 1) ∧ Marks p (doW m 1 0 1).fails ks from ⟨(do_tick HJm.out.2.1).1, bds_do HJm.out.2.1 HJm.out.2.2.1 1 0 1 (by decide), by rw [do_fails (by decide)]; exact HJm.out.2.2.2⟩)
                    have HOkj := Lib.hid HJm.out.2.1
                    have HLk := Lib.hid (show 1000 * k + j ≤ 88000 by omega)
                    clear ho hb7 HJm hbz b0
                    go_wp2_with fail
                    refine HAny.out.mono ?_
                    rintro e w8 ⟨rfl, hb8⟩
                    have H8 := Lib.hid (H7.out.fresh hb8)
                    clear hb8 H7 HLi HAny
                    go_upto_region 15 with fail
                    go_cut [] (fun wx => Hid (ZeRun w wx w1.heap.size #[.string p.name, .int .i64 p.mn, .int .i64 p.mx, .int .i64 p.poll, .int .i64 p.cool, .int .i64 p.tol, .int .i64 p.back, .int .i64 p.after, .int .i64 p.shift, .int .i64 p.up.win, .int .i64 p.up.pods, .int .i64 p.up.pct, .int .i64 p.up.per, .int .i64 p.down.win, .int .i64 p.down.pods, .int .i64 p.down.pct, .int .i64 p.down.per, .slice A p.trigs.length cap] q (doW m 1 0 1) w2.heap.size bm k ks))
                    case first =>
                      have y1 := H8.out.box.here (i := 0) rfl
                      have y2 := H8.out.box.inside
                      go_region_held3 (fun w' => w'.cell? ⟨w2.heap.size, 0, none⟩ = some (.pointer (some ⟨q.g, 0, none⟩))) (first | exact y1 | go_keep) (first | (go_at_call 18; refine (topTick 1 _).mono ?_; rintro e w9 ⟨rfl, hb9⟩; have H9 := Lib.hid (H8.out.drew.fresh hb9); have y1 := H9.out.box.here (i := 0) rfl) | (go_at_call 17; refine (woDo 1 0 1 H9.out.wo HOkj.out HLk.out (by decide) (by decide)).mono ?_; rintro e w10 ⟨rfl, hc⟩; have H10 := Lib.hid (H9.out.did hc); have y1 := H10.out.box.here (i := 0) rfl))
                      all_goals (go_wp2_with fail; go_meet; exact H10)
                    case rest =>
                      have H10 := hcut
                      clear hcut H8 HOkj HLk
                      generalize doW m 1 0 1 = m3 at HNx HSay H10
                      have b1 := H10.out.box.here (i := 0) rfl
                      by_cases hw : 0 < m.target
                      · by_cases hz : m3.target = 0
                        · obtain ⟨s1, s2, s3⟩ := HSay.out hw hz
                          subst s1
                          subst s2
                          have hlen : ∀ ty, (Builtin.len_ #[86] ty #[.map (some bm)]).run Tryz.prog wc = .ok (.int .i64 0) wc := fun ty => by have := H10.out.set.len (t := 86) Tryz.underlying86 ty; simpa using this
                          have p1 := H10.out.plan.here (i := 1) rfl
                          have n1 : decide (0 < p.mn) = false := by simpa using s3
                          clear HSay s3
                          go_wp2_with fail
                          refine (zerTarget H10.out.wo).mono ?_
                          rintro e w' ⟨rfl, rfl⟩
                          rw [hz]
                          clear hz
                          go_wp2_with fail
                          go_roundw
                          case rel => exact ⟨j + 1, by omega, by go_num, Lib.hid ⟨m3, H10.out, HNx.out⟩⟩
                          case measure => simp [intOf]; omega
                        · have hzb : (m3.target == 0) = false := by simpa using hz
                          clear HSay hz
                          go_wp2_with fail
                          refine (zerTarget H10.out.wo).mono ?_
                          rintro e w' ⟨rfl, rfl⟩
                          go_wp2_with fail
                          go_roundw
                          case rel => exact ⟨j + 1, by omega, by go_num, Lib.hid ⟨m3, H10.out, HNx.out⟩⟩
                          case measure => simp [intOf]; omega
                      · have hw2 : m.target ≤ 0 := by omega
                        clear HSay hw
                        go_wp2_with fail
                        go_roundw
                        case rel => exact ⟨j + 1, by omega, by go_num, Lib.hid ⟨m3, H10.out, HNx.out⟩⟩
                        case measure => simp [intOf]; omega
                  · have hje : j = n := by omega
                    subst hje
                    have HN := Lib.hid (show ∃ m ks, ZeRun w wr w1.heap.size #[.string p.name, .int .i64 p.mn, .int .i64 p.mx, .int .i64 p.poll, .int .i64 p.cool, .int .i64 p.tol, .int .i64 p.back, .int .i64 p.after, .int .i64 p.shift, .int .i64 p.up.win, .int .i64 p.up.pods, .int .i64 p.up.pct, .int .i64 p.up.per, .int .i64 p.down.win, .int .i64 p.down.pods, .int .i64 p.down.pct, .int .i64 p.down.per, .slice A p.trigs.length cap] q m w2.heap.size bm (k + 1) ks ∧ m.ok (1000 * (k + 1)) ∧ Bds p m ∧ Marks p m.fails ks from ⟨m, ks, HJm.out.1.more (by omega), HJm.out.2.1.up (by omega), HJm.out.2.2⟩)
                    clear HJm
                    go_wp2_with fail
                    go_roundw
                    case rel => exact ⟨k + 1, by omega, by go_num, HN⟩
                    case measure => simp [intOf]; omega
            · have hxb : (x == 1) = false := by simpa using hx
              obtain ⟨hq1, hq2⟩ := HKm.out.1.wo.boxed (.cells #[.int .i64 x, .int .i64 y, .int .i64 z] 44)
              have HNn := Lib.hid hq1; have HBx := Lib.hid hq2
              have HLk := Lib.hid (show 1000 * k ≤ 88000 by omega)
              clear hq1 hq2 hrow
              go_wp2_with fail
              refine (woDo x y z HNn.out HKm.out.2.1 HLk.out z0 z1).mono ?_
              rintro e w9 ⟨rfl, hc⟩
              have HR := Lib.hid (HKm.out.1.did (WoC.unbox HBx.out hc))
              have HBX := Lib.hid (At.kept (Tide.At.made wr 44 #[.int .i64 x, .int .i64 y, .int .i64 z]) hc.2 (.inr rfl))
              have HOk2 := Lib.hid (show (doW m x y z).ok (1000 * (k + 1)) from (ok_do HKm.out.2.1 x y z).up (by omega))
              have HBd2 := Lib.hid (bds_do HKm.out.2.1 HKm.out.2.2.1 x y z HX13.out)
              have HMk := Lib.hid HKm.out.2.2.2
              have HFl := Lib.hid (show m.fails.length = p.trigs.length by rw [HKm.out.2.1.fails, HKm.out.2.2.1.plan])
              have k0 := HBX.out.here (i := 0) rfl
              have k1 := HBX.out.here (i := 1) rfl
              have k2 := HBX.out.here (i := 2) rfl
              clear hc c0 c1 c2 HKm HNn HBx hx2 hx3 HX13
              generalize wr.heap.size = gx at HBX k0 k1 k2 ⊢
              by_cases h7 : x = 7
              · subst h7
                rw [do_fail.1] at *
                rw [do_fail.2] at HR HOk2 HBd2
                by_cases hE : failE m y z = 0
                · have hE2 := hE
                  unfold failE at hE2
                  have hy0 : 0 ≤ y ∧ y < (m.fails.length : Int) := by
                    by_cases c : y < 0 ∨ (m.fails.length : Int) ≤ y
                    · rw [if_pos c] at hE2; cases hE2
                    · omega
                  have hz01 : z = 0 ∨ z = 1 := by
                    rw [if_neg (by omega)] at hE2
                    by_cases c : z ≠ 0 ∧ z ≠ 1
                    · rw [if_pos c] at hE2; cases hE2
                    · omega
                  clear hE2
                  obtain ⟨a, rfl⟩ := Int.eq_ofNat_of_zero_le hy0.1
                  rw [if_pos hE] at HR HOk2 HBd2
                  rw [hE]
                  have hfl := HFl.out
                  have hal : a < m.fails.length := by omega
                  have han : (Int.ofNat a).toNat = a := rfl
                  obtain ⟨t, htk⟩ := Tide.get_some p.trigs (show a < p.trigs.length by omega)
                  have a1 : (a : Int) < (p.trigs.length : Int) := by omega
                  have a0 : (0 : Int) ≤ (a : Int) := by omega
                  have wfa : (Lit.int .i64 (a : Int)).wf = true := WalkArith.wf_i64 (by have := (planE_ok HPE.out).few; omega)
                  rw [Int.toNat_natCast] at HR HOk2 HBd2
                  obtain ⟨tA, tcap, te, hct⟩ := HTr.out
                  obtain ⟨rfl, _, rfl⟩ := slice_eq te
                  obtain ⟨bt, offt, rfl, hblt, hct⟩ := hct (by omega)
                  have ct : w9.cell? ⟨bt, offt + a * 17, none⟩ = some (.int .i64 t.kind) := by
                    have := (HR.out.below.cell (p := ⟨bt, offt + a * 17 + 0, none⟩) hblt).trans (hct a t 0 _ htk rfl)
                    simpa using this
                  have p17 := HR.out.plan.here (i := 17) rfl
                  obtain ⟨_, _, _, _, _, hnd⟩ := HR.out.set
                  have HNd := Lib.hid hnd
                  clear hct hblt te hnd hE hy0 hfl han
                  by_cases h3 : t.kind = 3
                  · have HN := Lib.hid (show ∃ m ks, ZeRun w w9 w1.heap.size #[.string p.name, .int .i64 p.mn, .int .i64 p.mx, .int .i64 p.poll, .int .i64 p.cool, .int .i64 p.tol, .int .i64 p.back, .int .i64 p.after, .int .i64 p.shift, .int .i64 p.up.win, .int .i64 p.up.pods, .int .i64 p.up.pct, .int .i64 p.up.per, .int .i64 p.down.win, .int .i64 p.down.pods, .int .i64 p.down.pct, .int .i64 p.down.per, .slice (some ⟨bt, offt, none⟩) p.trigs.length cap] q m w2.heap.size bm (k + 1) ks ∧ m.ok (1000 * (k + 1)) ∧ Bds p m ∧ Marks p m.fails ks from ⟨_, ks, HR.out.more (by omega), HOk2.out, HBd2.out, marks_span HMk.out htk h3 _⟩)
                    rw [h3] at ct
                    clear h3 htk hal hz01
                    go_wp2_with fail
                    go_roundw
                    case rel => exact ⟨k + 1, by omega, by go_num, HN⟩
                    case measure => simp [intOf]; omega
                  · have h3b : (t.kind != 3) = true := by simpa using h3
                    rcases hz01 with rfl | rfl
                    · obtain ⟨w10, hrun, hks, hch⟩ := HR.out.set.drop (t := 86) zer_key Tryz.underlying86 Tryz.underlying3 (a : Int) wfa 0
                      have HN := Lib.hid (show ∃ m ks, ZeRun w w10 w1.heap.size #[.string p.name, .int .i64 p.mn, .int .i64 p.mx, .int .i64 p.poll, .int .i64 p.cool, .int .i64 p.tol, .int .i64 p.back, .int .i64 p.after, .int .i64 p.shift, .int .i64 p.up.win, .int .i64 p.up.pods, .int .i64 p.up.pct, .int .i64 p.up.per, .int .i64 p.down.win, .int .i64 p.down.pods, .int .i64 p.down.pct, .int .i64 p.down.per, .slice (some ⟨bt, offt, none⟩) p.trigs.length cap] q m w2.heap.size bm (k + 1) ks ∧ m.ok (1000 * (k + 1)) ∧ Bds p m ∧ Marks p m.fails ks from ⟨_, _, (HR.out.put hks hch).more (by omega), HOk2.out, HBd2.out, marks_off HMk.out HNd.out a _⟩)
                      clear h3 htk hal hks hch
                      go_wp2_with fail
                      go_roundw
                      case rel => exact ⟨k + 1, by omega, by go_num, HN⟩
                      case measure => simp [intOf]; omega
                    · obtain ⟨w10, hrun, hks, hch⟩ := HR.out.set.mark (t := 86) zer_key Tryz.underlying86 Tryz.underlying3 Tryz.underlying4 (by simp only [maxLen]; omega) (a : Int) wfa
                      have HN := Lib.hid (show ∃ m ks, ZeRun w w10 w1.heap.size #[.string p.name, .int .i64 p.mn, .int .i64 p.mx, .int .i64 p.poll, .int .i64 p.cool, .int .i64 p.tol, .int .i64 p.back, .int .i64 p.after, .int .i64 p.shift, .int .i64 p.up.win, .int .i64 p.up.pods, .int .i64 p.up.pct, .int .i64 p.up.per, .int .i64 p.down.win, .int .i64 p.down.pods, .int .i64 p.down.pct, .int .i64 p.down.per, .slice (some ⟨bt, offt, none⟩) p.trigs.length cap] q m w2.heap.size bm (k + 1) ks ∧ m.ok (1000 * (k + 1)) ∧ Bds p m ∧ Marks p m.fails ks from ⟨_, _, HR.out.put hks hch, HOk2.out, HBd2.out, marks_on HMk.out hal htk h3⟩)
                      clear h3 htk hal hks hch
                      go_wp2_with fail
                      go_roundw
                      case rel => exact ⟨k + 1, by omega, by go_num, HN⟩
                      case measure => simp [intOf]; omega
                · rw [if_neg hE] at HR HOk2 HBd2
                  have hEb : (failE m y z == 0) = false := by simpa using hE
                  have HN := Lib.hid (show ∃ m ks, ZeRun w w9 w1.heap.size #[.string p.name, .int .i64 p.mn, .int .i64 p.mx, .int .i64 p.poll, .int .i64 p.cool, .int .i64 p.tol, .int .i64 p.back, .int .i64 p.after, .int .i64 p.shift, .int .i64 p.up.win, .int .i64 p.up.pods, .int .i64 p.up.pct, .int .i64 p.up.per, .int .i64 p.down.win, .int .i64 p.down.pods, .int .i64 p.down.pct, .int .i64 p.down.per, .slice A p.trigs.length cap] q m w2.heap.size bm (k + 1) ks ∧ m.ok (1000 * (k + 1)) ∧ Bds p m ∧ Marks p m.fails ks from ⟨m, ks, HR.out.more (by omega), HOk2.out, HBd2.out, HMk.out⟩)
                  clear hE
                  go_wp2_with fail
                  go_roundw
                  case rel => exact ⟨k + 1, by omega, by go_num, HN⟩
                  case measure => simp [intOf]; omega
              · have h7b : (x == 7) = false := by simpa using h7
                have HN := Lib.hid (show ∃ m ks, ZeRun w w9 w1.heap.size #[.string p.name, .int .i64 p.mn, .int .i64 p.mx, .int .i64 p.poll, .int .i64 p.cool, .int .i64 p.tol, .int .i64 p.back, .int .i64 p.after, .int .i64 p.shift, .int .i64 p.up.win, .int .i64 p.up.pods, .int .i64 p.up.pct, .int .i64 p.up.per, .int .i64 p.down.win, .int .i64 p.down.pods, .int .i64 p.down.pct, .int .i64 p.down.per, .slice A p.trigs.length cap] q m w2.heap.size bm (k + 1) ks ∧ m.ok (1000 * (k + 1)) ∧ Bds p m ∧ Marks p m.fails ks from ⟨doW m x y z, ks, HR.out.more (by omega), HOk2.out, HBd2.out, by rw [do_fails h7]; exact HMk.out⟩)
                clear h7 HR HOk2 HBd2 HMk
                generalize doE m x y z = E
                by_cases hE : E = 0
                · have hEb : (E == 0) = true := by simpa using hE
                  clear hE
                  go_wp2_with fail
                  go_roundw
                  case rel => exact ⟨k + 1, by omega, by go_num, HN⟩
                  case measure => simp [intOf]; omega
                · have hEb : (E == 0) = false := by simpa using hE
                  clear hE
                  go_wp2_with fail
                  go_roundw
                  case rel => exact ⟨k + 1, by omega, by go_num, HN⟩
                  case measure => simp [intOf]; omega
          · have HF := Lib.hid HKm.out.1.below
            clear HKm
            go_wp2_with fail
            go_ret
            exact ⟨rfl, HF.out⟩
end Go.Proofs.YtlfaogkdghnmcaaGreat
