/- The walk of StablePace. -/
import Derived.Test.YtgkbdoecpbepbaaStbI
import Derived.Test.YtgkbdoecpbepbaaOpenInts
namespace Go.Proofs.Ytgkbdoecpbepbaa
open Go.RowKit
set_option linter.unusedVariables false
/-- at the head of StablePace's loop -/
structure PcRun (w0 wr : World) (g : Nat) (p k : Int) (j : Nat) (now have0 : Int) (o : Value) (S S2 : Nat → Prop) (s : Tide.Stb) (vw vm : Value) (q : List Tide.Wsh) : Prop where
  stb : StbAt 94 101 S wr g s vw vm
  solo : Solo w0 wr S
  was : WishesAt w0 wr S S2 o q
  ok : s.ok j
  pace : Paced p k s
  told : s.moved.filter Tide.grewB = q.map Tide.Wsh.mark
  len : q.length ≤ j
  last : s.last ≤ now
  now0 : 0 ≤ now
  now1 : now ≤ 7 * j
  hav : 0 ≤ have0 ∧ have0 ≤ 50
def PcAt (w0 wr : World) (g : Nat) (p k : Int) (j : Nat) (now have0 : Int) (o : Value) : Prop := ∃ S S2 s vw vm q, PcRun w0 wr g p k j now have0 o S S2 s vw vm q
theorem told_bd {s : Tide.Stb} {j : Nat} {q : List Tide.Wsh} (h : s.ok j) (ht : s.moved.filter Tide.grewB = q.map Tide.Wsh.mark) : ∀ m ∈ q.map Tide.Wsh.mark, 0 ≤ m.2 ∧ m.2 ≤ 50 := fun m hm => by
  rw [← ht, List.mem_filter] at hm
  have := (h.mov m hm.1).1
  have h2 : 0 < m.2 := by have := hm.2; unfold Tide.grewB at this; simpa using this
  omega
set_option maxRecDepth 100000 in
set_option maxHeartbeats 12800000 in
theorem stablePace_walk (a : Int) (wa : (Lit.int .i64 a).wf = true) (b : Int) (wb : (Lit.int .i64 b).wf = true) (v1 : Value) (l1 : List (List Int)) (v2 : Value) (l2 : List (List Int)) (w : World) (hl1 : ArgRows w 1 v1 l1) (hl2 : ArgRows w 1 v2 l2) :
    Calls Try.prog 10 #[.int .i64 a, .int .i64 b, v1, v2] w fun e w' => e = .returned (.bool true) ∧ Below w.heap.size w w' := by
  obtain ⟨A, cap, rfl, hcap, hmax, hrows, hA⟩ := hl1
  have HA := Lib.hid hA; have HR := Lib.hid hrows
  clear hA hrows hmax hcap
  obtain ⟨A2, cap2, rfl, hcap, hmax, hrows, hA⟩ := hl2
  have HA2 := Lib.hid hA; have HR2 := Lib.hid hrows
  have hmx : cap2 ≤ 9223372036854775807 := hmax
  obtain ⟨i0, hi, hz0, hz1, hz2⟩ := info_parts wish_info
  clear hA hrows hmax wa wb
  go_enter Try.func10, Try.ntmps10
  go_wp2_with fail
  refine (stbSlow _).mono ?_
  rintro e w1 ⟨rfl, hb1⟩
  have HB1 := Lib.hid hb1
  clear hb1
  go_wp2_with fail
  refine (restC a 9 _ (by decide) (by decide)).mono ?_
  rintro e wz ⟨rfl, rfl⟩
  obtain ⟨p0, hp, hp0, hp1⟩ : ∃ p, Hid (a % 9 = p) ∧ 0 ≤ p ∧ p ≤ 8 := ⟨_, Lib.hid rfl, by omega, by omega⟩
  rw [hp.out]
  go_wp2_with fail
  refine (restC b 20 _ (by decide) (by decide)).mono ?_
  rintro e wz ⟨rfl, rfl⟩
  obtain ⟨k0, hk, hk0, hk1⟩ : ∃ k, Hid (b % 20 = k) ∧ 0 ≤ k ∧ k ≤ 19 := ⟨_, Lib.hid rfl, by omega, by omega⟩
  rw [hk.out]
  obtain ⟨p, hpe⟩ : ∃ p, Hid (p0 + 1 = p) := ⟨_, Lib.hid rfl⟩
  obtain ⟨k, hke⟩ : ∃ k, Hid (k0 + 1 = k) := ⟨_, Lib.hid rfl⟩
  have pw : IntKind.i64.wrap (p0 + 1) = p0 + 1 := IntWalk.i64_in _ (by omega)
  have kw : IntKind.i64.wrap (k0 + 1) = k0 + 1 := IntWalk.i64_in _ (by omega)
  go_wp2_with fail
  refine (stbNew ⟨0, p0 + 1, 0, k0 + 1⟩ ⟨0, 0, 0, 0⟩ _).mono ?_
  rintro e w2 ⟨g, rfl, h2, hb2⟩
  rw [hpe.out, hke.out] at h2 ⊢
  have hp2 : 1 ≤ p ∧ p ≤ 9 := by have := hpe.out; omega
  have hk2 : 1 ≤ k ∧ k ≤ 20 := by have := hke.out; omega
  have hS := Lib.hid (show PcAt w w2 g p k 0 0 0 (.slice none 0 0) from ⟨_, _, _, _, _, [], h2, ⟨fun b hb => by rcases hb with hb | hb; exact hb.elim; exact Nat.le_trans HB1.out.size hb.1, HB1.out.trans (hb2.mono HB1.out.size)⟩, WishesAt.nil _ _ _, newStb_ok _ _, ⟨by show (⟨Tide.clipT 0, Tide.clipT p, Tide.clipT 0, Tide.clipT k⟩ : Tide.Pace) = ⟨0, p, 0, k⟩; rw [show Tide.clipT 0 = 0 from rfl, show Tide.clipT p = p by unfold Tide.clipT; omega, show Tide.clipT k = k by unfold Tide.clipT; omega], by show (⟨Tide.clipT 0, Tide.clipT 0, Tide.clipT 0, Tide.clipT 0⟩ : Tide.Pace) = ⟨0, 0, 0, 0⟩; rfl⟩, rfl, Nat.le_refl _, Int.le_refl _, Int.le_refl _, by decide, by decide⟩)
  clear h2 hb2 hp hk pw kw hpe hke hp0 hp1 hk0 hk1
  go_upto_region 7 with fail
  go_cut [39, 40, 41] (fun s27 s28 s29 wx => ∃ m : Nat, m ≤ 60 ∧ m ≤ l2.length ∧ s27 = .slice A2 m cap2 ∧ s28 = .int .i64 m ∧ s29 = .int .i64 0 ∧ wx = w2)
  case first =>
    have hcases : (60 : Int) < l2.length ∨ (l2.length : Int) = 60 ∨ (l2.length : Int) < 60 := by omega
    rcases hcases with hlen | hlen | hlen
    · go_wp2_with fail
      go_meet
      exact ⟨60, by omega, by omega, by rfl, rfl, rfl, rfl⟩
    · have hq : (60 : Int) ≤ (l2.length : Int) := by omega
      have hq2 : (l2.length : Int) ≤ 60 := by omega
      go_wp2_with fail
      go_meet
      exact ⟨60, by omega, by omega, by rfl, rfl, rfl, rfl⟩
    · go_wp2_with fail
      go_meet
      exact ⟨l2.length, by omega, by omega, by rfl, rfl, rfl, rfl⟩
  case rest =>
  obtain ⟨m, hm100, hml, rfl, rfl, rfl, rfl⟩ := hcut
  go_wp2_with fail
  go_loopw [12, 13, 14, 41] (fun sn sh o i wr => ∃ (j : Nat) (now hv : Int), i = .int .i64 j ∧ j ≤ m ∧ sn = .int .i64 now ∧ sh = .int .i64 hv ∧ Hid (PcAt w wr g p k j now hv o)) (fun _ _ _ i _ => m - (intOf i).toNat)
  case atStart => exact ⟨0, 0, 0, rfl, by omega, rfl, rfl, hS⟩
  case round =>
    clear hS
    obtain ⟨j, now, hv, rfl, hj, rfl, rfl, HW0⟩ := hrel
    obtain ⟨S, S2, s, vw, vm, q, hW⟩ := HW0.out
    have HW := Lib.hid hW
    have hmm : (m : Int) ≤ 60 := by omega
    clear HW0
    by_cases hlt : j < m
    · obtain ⟨b2, off2, x, rfl, hx, _, _⟩ := round_int HA2.out HR2.out hW.solo.below (show j < l2.length by omega)
      have hj0 : (0 : Int) ≤ (j : Int) := by omega
      have hj1 : (j : Int) < (m : Int) := by omega
      have hn0 := hW.now0; have hn1 := hW.now1; have hh0 := hW.hav.1; have hh1 := hW.hav.2
      have HL1 := Lib.hid hW.last
      have HSo := Lib.hid hW.solo
      clear hW
      have HEnd : ∀ nw, Hid (now ≤ nw ∧ nw ≤ now + 7) → Hid (now ≤ nw ∧ nw ≤ now + 7) := fun _ h => h
      by_cases hlw : j < l1.length
      case' pos =>
        obtain ⟨b3, off3, x3, rfl, hx3, _, _⟩ := round_int HA.out HR.out HSo.out.below hlw
        have hj2 : (j : Int) < (l1.length : Int) := by omega
        go_wp2_with fail
        refine (restC x3 8 _ (by decide) (by decide)).mono ?_
        rintro e wz ⟨rfl, rfl⟩
        obtain ⟨r, hr, hr0, hr1⟩ : ∃ r, Hid (x3 % 8 = r) ∧ 0 ≤ r ∧ r ≤ 7 := ⟨_, Lib.hid rfl, by omega, by omega⟩
        rw [hr.out]
        have hw : IntKind.i64.wrap (now + r) = now + r := IntWalk.i64_in _ (by omega)
        clear hx3 hr hj2 hlw
        go_wp2_with fail
        obtain ⟨nw, hnw⟩ : ∃ nw, Hid (now + r = nw) := ⟨_, Lib.hid rfl⟩
        rw [hnw.out]
        have HNw := HEnd nw (Lib.hid (by have := hnw.out; omega))
        clear hnw hw hr0 hr1
      case' neg =>
        have hj2 : (l1.length : Int) ≤ (j : Int) := by omega
        clear hlw
        go_wp2_with fail
        obtain ⟨nw, hnw⟩ : ∃ nw, Hid (now = nw) := ⟨_, Lib.hid rfl⟩
        have HNw := HEnd nw (Lib.hid (by have := hnw.out; omega))
        rw [hnw.out]
        clear hnw hj2
      all_goals
        as_aux_lemma =>
          have hnw0 : 0 ≤ nw := by have := HNw.out; omega
          have hnw1 : nw ≤ 7 * j + 7 := by have := HNw.out; omega
          refine (restC x 51 _ (by decide) (by decide)).mono ?_
          rintro e wz ⟨rfl, rfl⟩
          obtain ⟨y, hy, hy0, hy1⟩ : ∃ y, Hid (x % 51 = y) ∧ 0 ≤ y ∧ y ≤ 50 := ⟨_, Lib.hid rfl, by omega, by omega⟩
          rw [hy.out]
          clear hx hy hn0 hn1
          go_wp2_with fail
          refine (stbSettle S g s vw vm nw hv y _ j HW.out.stb HW.out.ok (by omega)).mono ?_
          rintro e w3 ⟨rfl, ⟨vw3, vm3, h3⟩, c3⟩
          have HA3 := Lib.hid (HW.out.was.beside c3)
          have HO3 := Lib.hid (HW.out.solo.next c3)
          have HS3 := Lib.hid h3
          clear h3 c3
          have hk : Tide.settleOk s nw hv y = true := by
            unfold Tide.settleOk
            simp only [Bool.and_eq_true, decide_eq_true_eq]
            have := HL1.out; have := HNw.out
            omega
          have e2 : Tide.settleE s nw hv y = 0 := by unfold Tide.settleE; rw [hk]; rfl
          have HSay := Lib.hid (fun hn => pace_says (now := nw) (have0 := hv) (want := y) HW.out.ok HW.out.pace (by omega) (by omega) hk hn)
          have pn := pace_next (now := nw) (have0 := hv) (want := y) hk
          have HOk := Lib.hid (settle_ok (now := nw) (have0 := hv) (want := y) HW.out.ok)
          have HPc := Lib.hid (paced_next (now := nw) (have0 := hv) (want := y) HW.out.pace)
          have HTb := Lib.hid (told_bd HW.out.ok HW.out.told)
          have hbd : 0 ≤ Tide.settleN s nw hv y ∧ Tide.settleN s nw hv y ≤ 50 := by
            rw [settle_n0 hk]
            exact settleN0_bd _ _ _ _ (fun m hm => ((Stb.ok_seen HW.out.ok hk).wan m hm).1) hh0 hh1 hy0 hy1
          rw [HW.out.told] at HSay pn
          have HPn := Lib.hid pn; have HLq := Lib.hid HW.out.len
          rw [e2]
          generalize Tide.settleS s nw hv y = s3 at HS3 HOk HPc HPn pn ⊢
          generalize Tide.settleN s nw hv y = n' at HSay hbd HPn pn ⊢
          obtain ⟨hb0, hb1⟩ := hbd
          obtain ⟨A7, c7, rfl, _, _, _⟩ := HA3.out.row.slice
          clear hk e2 HW pn
          have hq100 : (q.length : Int) ≤ 60 := by have := HLq.out; omega
          by_cases hup : hv < n'
          · have hdw : IntKind.i64.wrap (n' - hv) = n' - hv := IntWalk.i64_in _ (by omega)
            have HSay2 := Lib.hid (HSay.out hup)
            have HTold := Lib.hid (show s3.moved.filter Tide.grewB = (q ++ [(⟨nw, 0, n' - hv⟩ : Tide.Wsh)]).map Tide.Wsh.mark by rw [HPn.out.1, if_pos hup, List.map_append]; rfl)
            clear HSay
            go_wp2_with fail
            go_loopw [19, 76] (fun sg i wr => ∃ t : Nat, t ≤ q.length ∧ i = .int .i64 t ∧ sg = .int .i64 (Tide.grownL (nw - k) ((q.map Tide.Wsh.mark).take t) (n' - hv)) ∧ Hid (Below w3.heap.size w3 wr)) (fun _ i _ => q.length - (intOf i).toNat)
            case atStart => exact ⟨0, by omega, rfl, rfl, Lib.hid (Below.refl _ _)⟩
            case round =>
              obtain ⟨t, ht, rfl, rfl, HB⟩ := hrel
              have gb := Tide.grown_bd (t := nw - k) ((q.map Tide.Wsh.mark).take t) (n' - hv) (fun m hm => HTb.out m (List.mem_of_mem_take hm))
              have gl : (((q.map Tide.Wsh.mark).take t).length : Int) ≤ 60 := by rw [List.length_take]; omega
              by_cases htq : t < q.length
              · obtain ⟨r, hr⟩ := Tide.get_some q htq
                obtain ⟨b4, cap4, e, hbl, d0, d1, d2⟩ := (HA3.out.below HB.out).wish hr
                cases e
                have t0 : (0 : Int) ≤ (t : Int) := by omega
                have t1 : (t : Int) < (q.length : Int) := by omega
                have hw : IntKind.i64.wrap (nw - k) = nw - k := IntWalk.i64_in _ (by omega)
                have HBn := Lib.hid (HB.out.alloc HB.out.size (.cells #[.int .i64 r.now, .int .i64 r.have0, .int .i64 r.want] 59))
                have hrm : (q.map Tide.Wsh.mark)[t]? = some r.mark := by rw [List.getElem?_map, hr]; rfl
                have HGs := Lib.hid (Tide.grown_snoc (t := nw - k) (x := n' - hv) hrm)
                have hrb := HTb.out r.mark (List.mem_of_getElem? hrm)
                have hrb1 : 0 ≤ r.want := hrb.1
                have hrb2 : r.want ≤ 50 := hrb.2
                generalize Tide.grownL (nw - k) ((q.map Tide.Wsh.mark).take t) (n' - hv) = G at gb HGs ⊢
                have hgw : IntKind.i64.wrap (G + r.want) = G + r.want := IntWalk.i64_in _ (by omega)
                clear hr hrm hrb
                by_cases g1 : nw - k < r.now
                · have HG2 := Lib.hid (HGs.out.trans (if_pos g1))
                  clear gb gl
                  go_wp2_with fail
                  go_roundw
                  case rel => exact ⟨t + 1, by omega, by go_num, by rw [HG2.out] <;> rfl, HBn⟩
                  case measure => simp [intOf]; omega
                · have g1' : r.now ≤ nw - k := by omega
                  have HG2 := Lib.hid (HGs.out.trans (if_neg g1))
                  clear gb gl g1
                  go_wp2_with fail
                  go_roundw
                  case rel => exact ⟨t + 1, by omega, by go_num, by rw [HG2.out] <;> rfl, HBn⟩
                  case measure => simp [intOf]; omega
              · have hte : t = q.length := by omega
                subst hte
                rw [show (q.map Tide.Wsh.mark).take q.length = q.map Tide.Wsh.mark by rw [List.take_of_length_le (by simp)]] at gb gl ⊢
                generalize Tide.grownL (nw - k) (q.map Tide.Wsh.mark) (n' - hv) = G at gb HSay2 ⊢
                have HAr := Lib.hid (HA3.out.below HB.out)
                have hm3 := Lib.hid (show q.length + 1 ≤ maxLen by simp only [maxLen]; omega)
                have hm4 := Lib.hid (show (q.length + 1) * 24 ≤ 140737488355328 by omega)
                have hs2 := HSay2.out
                have hgd : G ≤ p ∨ (p < G ∧ n' ≤ p) := by omega
                clear hs2 gb gl htq
                rcases hgd with hgd | ⟨hgd, hgn⟩
                all_goals
                  go_wp2_with (at_builtin; refine wpList_append_lies _ (by rfl) (.tmp 99) (.tmp 105) 53 (by rfl) 0 59 i0 (.agg #[.int .i64 0, .int .i64 0, .int .i64 0]) 3 24 Try.underlying53 hi hz0 hz1 hz2 rfl (by decide) (.slice A7 q.length c7) _ _ rfl (HAr.out.row.alloc _).owns ⟨wr.heap.size, 0, none⟩ 1 1 [.int .i64 nw, .int .i64 0, .int .i64 (n' - hv)] rfl rfl (new_cells_in rfl) (by simp [Value.oneCell']) (by decide) hm3.out hm4.out (Nat.zero_le _) _ rfl ?_)
                  intro b5 cap5 w5 hown hg ho hlt2
                  obtain ⟨HA5, hc5⟩ := HAr.out.app (r := ⟨nw, 0, n' - hv⟩) (fun b hb => (HS3.out.below HB.out).lim b hb) ((HO3.out.below_ HB.out).below.size) hown hg (ho.imp id (fun e => e.trans (by simp))) hlt2
                  have HN := Lib.hid (show PcAt w w5 g p k (j + 1) nw n' (.slice (some ⟨b5, 0, none⟩) (q.length + 1) cap5) from ⟨_, _, _, _, _, q ++ [⟨nw, 0, n' - hv⟩], (HS3.out.below HB.out).chg hc5 (fun b h1 h2 => HAr.out.dis b h1 h2), ⟨HO3.out.own, (HO3.out.below_ HB.out).below.trans (hc5.below (HO3.out.below_ HB.out).below.size (fun b hb h2 => by have := (HAr.out.own b h2).1; omega))⟩, HA5, HOk.out, HPc.out, HTold.out, by have := HLq.out; simp; omega, by rw [HPn.out.2]; exact Int.le_refl _, hnw0, by omega, ⟨hb0, hb1⟩⟩)
                  clear hown hg ho hlt2 HA5 hc5
                  go_wp2_with fail
                  go_roundw
                  case rel => exact ⟨j + 1, nw, n', by go_num, by omega, rfl, rfl, HN⟩
                  case measure => simp [intOf]; omega
          · have hup' : n' ≤ hv := by omega
            have HN := Lib.hid (show PcAt w w3 g p k (j + 1) nw n' (.slice A7 q.length c7) from ⟨_, _, _, _, _, q, HS3.out, HO3.out, HA3.out, HOk.out, HPc.out, by rw [HPn.out.1, if_neg hup, List.append_nil], by have := HLq.out; omega, by rw [HPn.out.2]; exact Int.le_refl _, hnw0, by omega, ⟨hb0, hb1⟩⟩)
            clear hup HSay
            go_wp2_with fail
            go_roundw
            case rel => exact ⟨j + 1, nw, n', by go_num, by omega, rfl, rfl, HN⟩
            case measure => simp [intOf]; omega
    · have HF := Lib.hid hW.solo.below
      clear hW HW
      go_wp2_with fail
      go_ret
      exact ⟨rfl, HF.out⟩
end Go.Proofs.Ytgkbdoecpbepbaa
