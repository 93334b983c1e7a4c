/- The walk of QueueOnce. -/
import Derived.Test.YtgkbdoecpbepbaaQueT
import Derived.Test.YtgkbdoecpbepbaaQueO
import Derived.Test.YtgkbdoecpbepbaaQueE
import Derived.Test.YtgkbdoecpbepbaaRestC
import Derived.Test.YtgkbdoecpbepbaaOpenInts
import Derived.Deep.DeepCutAuto
namespace Tide
theorem once_facts : putNum [] 0 2 = 1 ∧ putErr [] 2 = 0 ∧ putLst [] 0 2 = [⟨1, 0, false⟩, ⟨2, 0, false⟩] ∧ putLast [] 0 2 = 2 ∧ leaseNum [⟨1, 0, false⟩, ⟨2, 0, false⟩] 0 5 = 1 ∧ leaseErr [⟨1, 0, false⟩, ⟨2, 0, false⟩] 0 5 = 0 ∧ leaseLst [⟨1, 0, false⟩, ⟨2, 0, false⟩] 0 5 = [⟨1, 5, true⟩, ⟨2, 0, false⟩] := by decide +kernel
theorem new_mem {last : Int} {n : Nat} {m : Msg} (h : m ∈ newMsgs last n) : last + 1 ≤ m.id ∧ m.id ≤ last + n ∧ m.taken = false := by
  unfold newMsgs at h
  obtain ⟨i, hi, rfl⟩ := List.mem_map.1 h
  rw [List.mem_range] at hi
  exact ⟨by simp only; omega, by simp only; omega, rfl⟩
theorem lent_start {n : Int} (h1 : 1 ≤ n) (h2 : n ≤ 190) : Lent (putLst [⟨1, 5, true⟩, ⟨2, 0, false⟩] 2 n) (fun j => if j = 1 then 5 else 0) (fun _ => false) 1 ∧ ((putLst [⟨1, 5, true⟩, ⟨2, 0, false⟩] 2 n).length : Int) = n + 2 := by
  have e : putLst [⟨1, 5, true⟩, ⟨2, 0, false⟩] 2 n = [⟨1, 5, true⟩, ⟨2, 0, false⟩] ++ newMsgs 2 n.toNat := by unfold putLst; rw [if_neg (by omega), if_neg (by simp; omega)]
  rw [e]
  have key : ∀ m ∈ ([⟨1, 5, true⟩, ⟨2, 0, false⟩] : List Msg) ++ newMsgs 2 n.toNat, m = ⟨1, 5, true⟩ ∨ (2 ≤ m.id ∧ m.id ≤ 192 ∧ m.taken = false) := fun m hm => by
    rcases List.mem_append.1 hm with c | c
    · simp at c
      rcases c with c | c
      · exact .inl c
      · rw [c]; exact .inr ⟨by decide, by decide, rfl⟩
    · have := new_mem c; exact .inr ⟨by omega, by omega, this.2.2⟩
  refine ⟨⟨?_, fun m hm => ?_, fun m hm => rfl, fun m hm ht => ?_, fun m hm ht => ?_⟩, by rw [List.length_append, newMsgs_length]; simp; omega⟩
  · unfold Up
    rw [List.pairwise_append]
    refine ⟨by simp, ?_, fun a ha b hb => ?_⟩
    · unfold newMsgs
      rw [List.pairwise_map]
      exact List.pairwise_lt_range.imp (fun {a b} hab => by simp only; omega)
    · have := new_mem hb
      simp at ha
      rcases ha with c | c <;> rw [c] <;> simp only <;> omega
  · rcases key m hm with c | c
    · rw [c]; exact ⟨by decide, by decide⟩
    · omega
  · rcases key m hm with c | c
    · rw [c]; rfl
    · rw [c.2.2] at ht; cases ht
  · rcases key m hm with c | c
    · rw [c] at ht; cases ht
    · show (if m.id = 1 then 5 else 0) ≤ 1
      rw [if_neg (by omega)]; decide
end Tide
namespace Go.Proofs.Ytgkbdoecpbepbaa
open Go.RowKit Go.Maps
set_option linter.unusedVariables false
theorem tak_zero (w : World) : (zeroValue 3).run Try.prog w = .ok (.int .i64 0) w := by kernel_rfl
theorem tak_zeroB (w : World) : (zeroValue 4).run Try.prog w = .ok (.bool false) w := by kernel_rfl
structure OnceRun (w0 wr : World) (g bt bd : Nat) (n now : Int) (j : Nat) (S : Nat → Prop) (v : Value) (l : List Tide.Msg) (last : Int) (f : Int → Int) (d : Int → Bool) (c : Nat) : Prop where
  q : QAt 85 S wr g v l last
  own : ∀ b, S b → w0.heap.size ≤ b
  below : Below w0.heap.size w0 wr
  tm : Tide.CntMap Try.prog 3 3 wr bt (j + 1) f
  dm : Tide.SetN Try.prog 3 4 wr bd c c d
  st : ¬ S bt
  sd : ¬ S bd
  ne : bt ≠ bd
  bt0 : w0.heap.size ≤ bt
  bd0 : w0.heap.size ≤ bd
  lent : Tide.Lent l f d now
  len : (l.length : Int) + c = n + 2
  now0 : 1 ≤ now
  now1 : now ≤ 6 * j + 1
def OnceAt (w0 wr : World) (g bt bd : Nat) (n now : Int) (j : Nat) : Prop := ∃ S v l last f d c, OnceRun w0 wr g bt bd n now j S v l last f d c
section
variable {w0 wr w1 : World} {g bt bd j c c' nt : Nat} {n now now' last last' : Int} {S : Nat → Prop} {v v' : Value} {l l' : List Tide.Msg} {f f' : Int → Int} {d d' : Int → Bool}
theorem OnceRun.que (h : OnceRun w0 wr g bt bd n now j S v l last f d c) (hq : QAt 85 S w1 g v' l' last') (hc : Tide.Chg S wr w1) : QAt 85 S w1 g v' l' last' ∧ Below w0.heap.size w0 w1 ∧ Tide.CntMap Try.prog 3 3 w1 bt (j + 1) f ∧ Tide.SetN Try.prog 3 4 w1 bd c c d :=
  ⟨hq, h.below.trans (hc.below h.below.size (fun b hb hS => by have := h.own b hS; omega)), h.tm.chg hc h.st, h.dm.chg hc h.sd⟩
end
set_option maxRecDepth 100000 in
set_option maxHeartbeats 12800000 in
theorem queueOnce_walk (n : Int) (hwf0 : (Lit.int .i64 n).wf = true) (v : Value) (l : List (List Int)) (w : World) (hl : ArgRows w 1 v l) :
    Calls Try.prog 5 #[.int .i64 n, v] w fun e w' => e = .returned (.bool true) ∧ Below w.heap.size w w' := by
  obtain ⟨A, cap, rfl, hcap, hmax, hrows, hA⟩ := hl
  clear hwf0
  have HA := Lib.hid hA; have HR := Lib.hid hrows
  clear hA hrows hcap hmax
  obtain ⟨f1, f2, f3, f4, f5, f6, f7⟩ := Tide.once_facts
  have F1 := Lib.hid f1; have F2 := Lib.hid f2; have F3 := Lib.hid f3; have F4 := Lib.hid f4; have F5 := Lib.hid f5; have F6 := Lib.hid f6; have F7 := Lib.hid f7
  clear f1 f2 f3 f4 f5 f6 f7
  have hmm := @run_makeMap Try.prog
  go_enter Try.func5, Try.ntmps5
  go_wp2_with fail
  refine (queNew _).mono ?_
  rintro e w1 ⟨g, v1, rfl, h1, hb1⟩
  have H1 := Lib.hid h1; have HB1 := Lib.hid hb1
  clear h1 hb1
  go_wp2_with fail
  refine (quePut _ g v1 [] 0 2 _ H1.out (by decide) (by decide)).mono ?_
  rintro e w2 ⟨rfl, ⟨v2, h2⟩, c2⟩
  rw [F3.out, F4.out] at h2
  rw [F1.out, F2.out]
  have H2 := Lib.hid h2
  have hO2 : ∀ b, Tide.Plus (Tide.Plus (fun _ => False) w w1) w1 w2 b → w.heap.size ≤ b := fun b hb => by
    have := HB1.out.size
    rcases hb with (hb | hb) | hb
    · exact hb.elim
    · exact hb.1
    · omega
  have HB2 := Lib.hid (HB1.out.trans (c2.below HB1.out.size (fun b hb hS => by rcases hS with hS | hS; exact hS.elim; omega)))
  have HO2 := Lib.hid hO2
  clear h2 c2 H1 hO2
  go_wp2_with fail
  refine (queLease _ g v2 _ _ 0 5 _ H2.out).mono ?_
  rintro e w3 ⟨rfl, h3, c3⟩
  rw [F7.out] at h3
  rw [F5.out, F6.out]
  have H3 := Lib.hid h3
  have HB3 := Lib.hid (HB2.out.trans (c3.below HB2.out.size (fun b hb hS => by have := HO2.out b hS; omega)))
  clear h3 c3 H2 F1 F2 F3 F4 F5 F6 F7
  by_cases hlen : 60 < l.length
  · have hbig : (60 : Int) < (l.length : Int) := by omega
    go_wp2_with fail
    go_ret
    exact ⟨rfl, HB3.out⟩
  have hsm : (l.length : Int) ≤ 60 := by omega
  by_cases n1 : n < 1
  · go_wp2_with fail
    go_ret
    exact ⟨rfl, HB3.out⟩
  have n1' : 1 ≤ n := by omega
  by_cases n2 : 190 < n
  · clear n1
    go_wp2_with fail
    go_ret
    exact ⟨rfl, HB3.out⟩
  have n2' : n ≤ 190 := by omega
  clear n1 n2 hlen
  go_wp2_with fail
  refine (quePut _ g v2 _ 2 n _ H3.out (by decide) (by decide)).mono ?_
  rintro e w4 ⟨rfl, ⟨v4, h4⟩, c4⟩
  obtain ⟨ls1, ls2⟩ := Tide.lent_start n1' n2'
  have HM0 := Lib.hid (Tide.CntMap.made Try.prog 3 3 w4)
  have HB4 := Lib.hid (HB3.out.trans (c4.below HB3.out.size (fun b hb hS => by have := HO2.out b hS; omega)))
  have HL4 := Lib.hid h4.lim
  have HO4 := Lib.hid (show ∀ b, Tide.Plus (Tide.Plus (Tide.Plus (fun _ => False) w w1) w1 w2) w3 w4 b → w.heap.size ≤ b from fun b hb => by
    have := HB3.out.size
    rcases hb with hb | hb
    · exact HO2.out b hb
    · omega)
  have H4 := Lib.hid h4; have LS1 := Lib.hid ls1; have LS2 := Lib.hid ls2
  clear h4 c4 ls1 ls2
  obtain ⟨w5, hrun, hcm, hch⟩ := HM0.out.lay (t := 44) tak_key Try.underlying44 Try.underlying3 Try.underlying3 (by decide) 1 5 rfl rfl
  have HD0 := Lib.hid (Tide.SetN.made Try.prog 3 4 w5)
  have zz : w4.heap.size < w5.heap.size := by have := hch.size; simp at this; omega
  have H0 := Lib.hid (show OnceAt w (w5.alloc (.map #[] 0)) g w4.heap.size w5.heap.size n 1 0 from by
    have hcA := (Tide.Chg.refl (fun _ => False) w4).alloc (.map #[] 0)
    have hQ := ((H4.out.chg hcA (fun _ _ h => h)).chg hch (fun b hb e => by have := HL4.out b hb; omega)).alloc (.map #[] 0)
    refine ⟨_, _, _, _, _, _, 0, hQ, HO4.out, ((HB4.out.alloc HB4.out.size _).trans (hch.below (Nat.le_trans HB4.out.size (by simp)) (fun b hb e => by have := HB4.out.size; omega))).alloc (by have := HB4.out.size; omega) _, (hcm.as (f' := fun j => if j = 1 then 5 else 0) rfl).chg ((Tide.Chg.refl (fun _ => False) w5).alloc _) (fun h => h), HD0.out, fun h => by have := HL4.out _ h; omega, fun h => by have := HL4.out _ h; omega, by omega, HB4.out.size, by have := HB4.out.size; omega, LS1.out, by have := LS2.out; omega, by decide, by decide⟩)
  clear hcm hch HM0 HD0
  go_wp2_with fail
  generalize w4.heap.size = bt at H0 ⊢
  generalize w5.heap.size = bd at H0 ⊢
  go_loopw [10, 62] (fun sn i wr => ∃ (j : Nat) (now : Int), j ≤ l.length ∧ i = .int .i64 j ∧ sn = .int .i64 now ∧ Hid (OnceAt w wr g bt bd n now j)) (fun _ i _ => l.length - (intOf i).toNat)
  case atStart => exact ⟨0, 1, by omega, rfl, rfl, H0⟩
  case round =>
    clear H0
    obtain ⟨j, now, hj, rfl, rfl, HO⟩ := hrel
    obtain ⟨S, v5, L, last, f, d, c, hO⟩ := HO.out
    have HW := Lib.hid hO
    have hnow0 := hO.now0; have hnow1 := hO.now1
    clear HO
    by_cases hlt : j < l.length
    · obtain ⟨b, off, x, rfl, hx, _, _⟩ := round_int HA.out HR.out hO.below hlt
      have hj0 : (0 : Int) ≤ (j : Int) := by omega
      have hj1 : (j : Int) < (l.length : Int) := by omega
      clear hO
      go_wp2_with fail
      refine (restC x 7 _ (by decide) (by decide)).mono ?_
      rintro e wz ⟨rfl, rfl⟩
      obtain ⟨r, hr, hr0, hr1⟩ : ∃ r, Hid (x % 7 = r) ∧ 0 ≤ r ∧ r ≤ 6 := ⟨_, Lib.hid rfl, by omega, by omega⟩
      rw [hr.out]
      have hw1 : IntKind.i64.wrap (now + r) = now + r := IntWalk.i64_in _ (by omega)
      go_wp2_with fail
      refine (restC x 5 _ (by decide) (by decide)).mono ?_
      rintro e wz ⟨rfl, rfl⟩
      obtain ⟨q, hq, hq0, hq1⟩ : ∃ q, Hid (x % 5 = q) ∧ 0 ≤ q ∧ q ≤ 4 := ⟨_, Lib.hid rfl, by omega, by omega⟩
      rw [hq.out]
      have hw2 : IntKind.i64.wrap (1 + q) = 1 + q := IntWalk.i64_in _ (by omega)
      go_wp2_with fail
      obtain ⟨nw, hnw⟩ : ∃ nw, Hid (now + r = nw) := ⟨_, Lib.hid rfl⟩
      obtain ⟨tk, htk⟩ : ∃ tk, Hid (1 + q = tk) := ⟨_, Lib.hid rfl⟩
      rw [hnw.out, htk.out]
      have nw0 : now ≤ nw := by have := hnw.out; omega
      have nw1 : nw ≤ 6 * j + 7 := by have := hnw.out; omega
      have tk0 : 1 ≤ tk := by have := htk.out; omega
      have tk1 : tk ≤ 5 := by have := htk.out; omega
      clear hr hq hw1 hw2 hr0 hr1 hq0 hq1 hnw htk hx
      have hok : Tide.leaseOk nw tk = true := by
        unfold Tide.leaseOk Tide.nowOk
        simp only [Bool.and_eq_true, decide_eq_true_eq]; omega
      refine (queLease S g v5 L last nw tk _ HW.out.q).mono ?_
      rintro e w3 ⟨rfl, h3, c3⟩
      obtain ⟨q3, b3, m3, d3⟩ := HW.out.que h3 c3
      have Q3 := Lib.hid q3; have B3 := Lib.hid b3; have M3 := Lib.hid m3; have D3 := Lib.hid d3
      have HLn := Lib.hid HW.out.len
      have HOn := Lib.hid hok
      clear h3 c3 q3 b3 m3 d3
      cases hf : Tide.firstAt Tide.free (Tide.backAll nw L) with
      | none =>
        have e1 : Tide.leaseErr L nw tk = 4 := by unfold Tide.leaseErr; rw [if_pos hok, hf]
        have e2 : Tide.leaseNum L nw tk = 0 := by unfold Tide.leaseNum; rw [if_pos hok, hf]
        rw [e1, e2]
        obtain ⟨k1, k2, k3⟩ := Tide.once_none HW.out.lent nw0 hf
        have K1 := Lib.hid k1; have K2 := Lib.hid k2; have K3 := Lib.hid k3
        have hc200 : (c : Int) ≤ 192 := by have := HLn.out; omega
        have hwn : IntKind.i64.wrap (n + 2) = n + 2 := IntWalk.i64_in _ (by omega)
        clear k1 k2 k3 e1 e2 hok hf
        by_cases hc : (c : Int) = n + 2
        · have hcb : ((c : Int) == n + 2) = true := by simp [hc]
          clear hc
          have hle3 := D3.out.len Try.underlying45 3
          go_wp2_with fail
          go_ret
          exact ⟨rfl, B3.out⟩
        · have hcb : ((c : Int) == n + 2) = false := by simp [hc]
          clear hc
          have hle3 := D3.out.len Try.underlying45 3
          go_wp2_with fail
          refine (queTaken bt (j + 1) f nw _ _ K1.out K2.out (by omega) M3.out (by omega)).mono ?_
          rintro e w4 ⟨t, rfl, ht1, ht2, hb4⟩
          have B4 := Lib.hid (B3.out.trans (hb4.mono B3.out.size))
          have ht3 : n + 2 ≤ (c : Int) + t := by have := HLn.out; have := K3.out; omega
          have hws : IntKind.i64.wrap ((c : Int) + t) = (c : Int) + t := IntWalk.i64_in _ (by omega)
          clear hb4 ht1
          go_wp2_with fail
          go_ret
          exact ⟨rfl, B4.out⟩
      | some i =>
        obtain ⟨m, hm, hmt, hmd, hmf, hm1, hm2⟩ := Tide.once_some HW.out.lent nw0 hf
        have e1 : Tide.leaseErr L nw tk = 0 := by unfold Tide.leaseErr; rw [if_pos hok, hf]
        have e2 : Tide.leaseNum L nw tk = m.id := by unfold Tide.leaseNum; rw [if_pos hok, hf]; simp only [hm]; rfl
        have e3 : Tide.leaseLst L nw tk = (Tide.backAll nw L).modify i (Tide.lend nw tk) := by unfold Tide.leaseLst; rw [if_pos hok, hf]
        rw [e3] at Q3
        rw [e1, e2]
        have HStill := Lib.hid (Tide.once_still HW.out.lent nw0 tk0 hm)
        have HLe := Lib.hid ((HW.out.lent.back nw0).1.lend (ticks := tk) hm)
        have HLen := Lib.hid (show (((Tide.backAll nw L).modify i (Tide.lend nw tk)).length : Int) + c = n + 2 by rw [List.length_modify]; unfold Tide.backAll; rw [List.length_map]; exact HLn.out)
        have HMi := Lib.hid (show ((Tide.backAll nw L).modify i (Tide.lend nw tk))[i]? = some (Tide.lend nw tk m) by rw [List.getElem?_modify]; simp [hm])
        generalize (Tide.backAll nw L).modify i (Tide.lend nw tk) = L2 at Q3 HStill HLe HLen HMi
        have hwf : (Lit.int .i64 m.id).wf = true := WalkArith.wf_i64 (by omega)
        have HMd := Lib.hid hmd
        have hws : IntKind.i64.wrap (nw + tk) = nw + tk := IntWalk.i64_in _ (by omega)
        have hwfv : (Lit.int .i64 (nw + tk)).wf = true := WalkArith.wf_i64 (by omega)
        have HLD := Lib.hid (D3.out.look tak_key Try.underlying45 Try.underlying3 Try.underlying4 (tak_zeroB _) m.id hwf)
        have hld := HLD.out
        rw [hmd] at hld
        have hlt3 := M3.out.look tak_key Try.underlying44 Try.underlying3 Try.underlying3 (tak_zero _) m.id hwf
        clear e1 e2 e3 hok hf hm hmt hmd HLD
        generalize f m.id = fm at hmf hlt3
        obtain ⟨w4, hrun, hcm, hch⟩ := M3.out.lay (t := 44) tak_key Try.underlying44 Try.underlying3 Try.underlying3 (by simp only [maxLen]; omega) m.id (nw + tk) hwf hwfv
        have Q4 := Lib.hid (Q3.out.chg hch (fun b hb e => HW.out.st (e ▸ hb)))
        have B4 := Lib.hid (B3.out.trans (hch.below B3.out.size (fun b hb e => by have := HW.out.bt0; omega)))
        have D4 := Lib.hid (D3.out.chg hch (fun e => HW.out.ne e.symm))
        have M4 := Lib.hid hcm
        clear hcm hch
        go_upto_region 25 with fail
        clear hld hlt3 hmf hrun
        cases hpar : ((j : Int) % 2 == 1)
        · have HN := Lib.hid (show OnceAt w w4 g bt bd n nw (j + 1) from ⟨S, v5, L2, last, _, d, c, Q4.out, HW.out.own, B4.out, M4.out, D4.out, HW.out.st, HW.out.sd, HW.out.ne, HW.out.bt0, HW.out.bd0, HLe.out, HLen.out, by omega, by omega⟩)
          go_wp2_with fail
          go_roundw
          case rel => exact ⟨j + 1, nw, by omega, by go_num, rfl, HN⟩
          case measure => simp [intOf]; omega
        · obtain ⟨hid0, hid1⟩ : 1 ≤ m.id ∧ m.id ≤ 1000 := ⟨hm1, hm2⟩
          have hnk : Tide.nowOk nw = true := by unfold Tide.nowOk; simp only [Bool.and_eq_true, decide_eq_true_eq]; omega
          have hmid : (Tide.lend nw tk m).id = m.id := rfl
          have hat := Tide.id_at HLe.out.up HMi.out
          have ea : Tide.ackErr L2 nw m.id = 0 := by unfold Tide.ackErr; rw [if_pos hnk, HStill.out]; rw [hmid] at hat; rw [hat]; simp only [HMi.out]; rfl
          have la : Tide.ackLst L2 nw m.id = L2.eraseIdx i := by unfold Tide.ackLst; rw [if_pos hnk, HStill.out]; rw [hmid] at hat; rw [hat]; simp only [HMi.out]; rfl
          have HE := Lib.hid (Tide.Lent.ack HLe.out HMi.out)
          have HGone := Lib.hid (show Tide.firstAt (Tide.isId m.id) (L2.eraseIdx i) = none from Tide.id_gone (m := Tide.lend nw tk m) HLe.out.up HMi.out)
          have HBk := Lib.hid (show Tide.backAll nw (L2.eraseIdx i) = L2.eraseIdx i from by
            have h0 := HStill.out
            unfold Tide.backAll at h0 ⊢
            rw [List.map_eq_iff] at h0
            refine List.ext_getElem? fun k => ?_
            rw [List.getElem?_map, List.getElem?_eraseIdx]
            split
            · first | exact h0 k | exact (h0 k).symm
            · first | exact h0 (k + 1) | exact (h0 (k + 1)).symm)
          have HEl := Lib.hid (show ((L2.eraseIdx i).length : Int) + ((c + 1 : Nat) : Int) = n + 2 by
            have hil := Tide.get_lt HMi.out
            have := HLen.out
            rw [List.length_eraseIdx]; simp [hil]; omega)
          have HNk := Lib.hid hnk
          go_wp2_with fail
          refine (queAck S g v5 L2 last nw m.id _ Q4.out).mono ?_
          rintro e w6 ⟨rfl, ⟨v6, h6⟩, c6⟩
          rw [la] at h6
          rw [ea]
          have Q6 := Lib.hid h6
          have B6 := Lib.hid (B4.out.trans (c6.below B4.out.size (fun b hb hS => by have := HW.out.own b hS; omega)))
          have M6 := Lib.hid (M4.out.chg c6 HW.out.st); have D6 := Lib.hid (D4.out.chg c6 HW.out.sd)
          clear h6 c6 ea la hat hmid
          have ea2 : Tide.ackErr (L2.eraseIdx i) nw m.id = 4 := by unfold Tide.ackErr; rw [if_pos hnk, HBk.out, HGone.out]
          have la2 : Tide.ackLst (L2.eraseIdx i) nw m.id = L2.eraseIdx i := by unfold Tide.ackLst; rw [if_pos hnk, HBk.out, HGone.out]
          go_wp2_with fail
          refine (queAck S g v6 (L2.eraseIdx i) last nw m.id _ Q6.out).mono ?_
          rintro e w7 ⟨rfl, ⟨v7, h7⟩, c7⟩
          rw [la2] at h7
          rw [ea2]
          have Q7 := Lib.hid h7
          have B7 := Lib.hid (B6.out.trans (c7.below B6.out.size (fun b hb hS => by have := HW.out.own b hS; omega)))
          have M7 := Lib.hid (M6.out.chg c7 HW.out.st); have D7 := Lib.hid (D6.out.chg c7 HW.out.sd)
          clear h7 c7 ea2 la2 hnk
          obtain ⟨w8, hrun8, hd8, hc8⟩ := D7.out.mark (t := 45) tak_key Try.underlying45 Try.underlying3 Try.underlying4 (by have := HLn.out; simp only [maxLen]; omega) m.id hwf HMd.out
          have M8 := Lib.hid (M7.out.chg hc8 HW.out.ne)
          obtain ⟨w9, hrun9, hm9, hc9⟩ := M8.out.drop (t := 44) tak_key Try.underlying44 Try.underlying3 m.id hwf 0
          have HN := Lib.hid (show OnceAt w w9 g bt bd n nw (j + 1) from ⟨S, v7, L2.eraseIdx i, last, _, _, c + 1, (Q7.out.chg hc8 (fun b hb e => HW.out.sd (e ▸ hb))).chg hc9 (fun b hb e => HW.out.st (e ▸ hb)), HW.out.own, (B7.out.trans (hc8.below B7.out.size (fun b hb e => by have := HW.out.bd0; omega))).trans (hc9.below (Nat.le_trans B7.out.size hc8.size) (fun b hb e => by have := HW.out.bt0; omega)), hm9, hd8.chg hc9 (fun e => HW.out.ne e.symm), HW.out.st, HW.out.sd, HW.out.ne, HW.out.bt0, HW.out.bd0, HE.out, HEl.out, by omega, by omega⟩)
          clear hm9 hc9 hd8 hc8
          go_wp2_with fail
          go_roundw
          case rel => exact ⟨j + 1, nw, by omega, by go_num, rfl, HN⟩
          case measure => simp [intOf]; omega
    · have hnk : Tide.nowOk now = true := by unfold Tide.nowOk; simp only [Bool.and_eq_true, decide_eq_true_eq]; omega
      clear hO
      go_wp2_with fail
      refine (queAll S g v5 L last now _ HW.out.q).mono ?_
      rintro e w3 ⟨⟨v', rfl, o3⟩, h3, c3⟩
      obtain ⟨q3, b3, m3, d3⟩ := HW.out.que h3 c3
      have e1 : Tide.nowErr now = 0 := by unfold Tide.nowErr; rw [if_pos hnk]
      have e2 : Tide.allLst L now = Tide.backAll now L := by unfold Tide.allLst; rw [if_pos hnk]
      have e3 : (Tide.backAll now L).length = L.length := by unfold Tide.backAll; rw [List.length_map]
      rw [e1]
      rw [e2, e3] at o3
      obtain ⟨A8, c8, rfl, _, _, _⟩ := o3.slice
      have hle3 := d3.len Try.underlying45 3
      have B3 := Lib.hid b3
      have hlen := HW.out.len
      have hw1 : IntKind.i64.wrap (n + 2) = n + 2 := IntWalk.i64_in _ (by omega)
      have hw2 : IntKind.i64.wrap (n + 2 - (c : Int)) = n + 2 - (c : Int) := IntWalk.i64_in _ (by omega)
      have hfin : ((L.length : Int) == n + 2 - (c : Int)) = true := by simp; omega
      clear o3 h3 c3 q3 b3 m3 d3 e1 e2 e3 hlen
      go_wp2_with fail
      go_ret
      exact ⟨rfl, B3.out⟩
end Go.Proofs.Ytgkbdoecpbepbaa
