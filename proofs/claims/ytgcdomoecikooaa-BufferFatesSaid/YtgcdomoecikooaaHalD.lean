/- The contracts of the reference's Hall: Next, Run, Done. -/
import Derived.Test.YtgcdomoecikooaaHalC
namespace Tide
/-- number n is at n-1; of a source -/
def Numbered (l : List Req) : Prop := ∀ (k : Nat) (r : Req), l[k]? = some r → r.id = (k : Int) + 1 ∧ 0 ≤ r.source ∧ r.source < 6
def freeF (l : List Req) (r : Req) : Bool := (r.fate == 1) && (countF r.source 2 l == 0)
def nextH (l : List Req) : Int := match firstAt (freeF l) l with | none => 0 | some i => (i : Int) + 1
theorem countF_nn (s f : Int) (l : List Req) : 0 ≤ countF s f l := by unfold countF; omega
theorem firstN_is {l : List Req} {k : Nat} {r : Req} (hn : Numbered l) (hr : l[k]? = some r) : (firstN l r.source = (k : Int) + 1) ↔ (freeF l r && !((l.take k).any (waitsOf r.source))) = true := by
  have hp := countF_nn r.source 2 l
  unfold firstN freeF
  by_cases hc : 0 < countF r.source 2 l
  · rw [if_pos hc]
    have h2 : (countF r.source 2 l == 0) = false := by simp only [beq_eq_false_iff_ne]; omega
    rw [h2]
    simp; omega
  · rw [if_neg hc]
    have h2 : (countF r.source 2 l == 0) = true := by simp only [beq_iff_eq]; omega
    rw [h2, Bool.and_true]
    cases hf : firstAt (waitsOf r.source) l with
    | none =>
      have := firstAt_miss hf k r hr
      unfold waitsOf at this
      have h3 : (r.fate == 1) = false := by simpa using this
      rw [h3]; simp; omega
    | some i =>
      obtain ⟨a, h1, h2, h3⟩ := firstAt_spec hf
      simp only
      rw [h1]
      show a.id = _ ↔ _
      rw [(hn i a h1).1]
      constructor
      · intro e
        have e' : i = k := by omega
        subst e'
        rw [hr] at h1; cases h1
        unfold waitsOf at h2
        have h4 : (r.fate == 1) = true := by simpa using h2
        rw [h4, Bool.true_and]
        have : (l.take i).any (waitsOf r.source) = false := by
          rw [List.any_eq_false]
          intro x hx
          obtain ⟨j, hj⟩ := List.mem_iff_getElem?.1 hx
          rw [List.getElem?_take] at hj
          split at hj
          · rename_i hji; simp [h3 j x hji hj]
          · cases hj
        rw [this]; rfl
      · intro e
        rw [Bool.and_eq_true] at e
        obtain ⟨e1, e2⟩ := e
        have h5 : waitsOf r.source r = true := by unfold waitsOf; rw [e1]; simp
        have e3 : (l.take k).any (waitsOf r.source) = false := by simpa using e2
        rw [List.any_eq_false] at e3
        rcases Nat.lt_trichotomy i k with c | c | c
        · exact absurd h2 (e3 a (List.mem_of_getElem? (i := i) (by rw [List.getElem?_take, if_pos c]; exact h1)))
        · omega
        · have := h3 k r c hr
          rw [h5] at this; cases this
end Tide
namespace Go.Proofs.Ytgcdomoecikooaa
open Go.RowKit
set_option linter.unusedVariables false

theorem nextH_some {l : List Tide.Req} {i : Nat} (h : Tide.firstAt (Tide.freeF l) l = some i) : Tide.nextH l = (i : Int) + 1 := by unfold Tide.nextH; rw [h]
theorem nextH_none {l : List Tide.Req} (h : Tide.firstAt (Tide.freeF l) l = none) : Tide.nextH l = 0 := by unfold Tide.nextH; rw [h]
set_option maxRecDepth 100000 in
set_option maxHeartbeats 1600000 in
theorem halNext (S : Nat → Prop) (g : Nat) (v : Value) (l : List Tide.Req) (w : World) (h : BAt 47 S w g v l) (hn : Tide.Numbered l) :
    Calls Try.prog 23 #[.pointer (some ⟨g, 0, none⟩)] w fun e w' => e = .returned (.tuple #[.int .i64 (Tide.nextH l), .bool (decide (0 < Tide.nextH l))]) ∧ w = w' := by
  obtain ⟨A, cap, rfl, _, _, _⟩ := h.row.slice
  have hc : w.cell? ⟨g, 0, none⟩ = some (.slice A l.length cap) := h.head.here rfl
  have hs := h.small
  have HH := Lib.hid h
  have HN := Lib.hid hn
  clear h hn
  go_enter Try.func23, Try.ntmps23
  go_wp2_with fail
  go_loop [4] (fun i => ∃ k : Nat, k ≤ l.length ∧ i = .int .i64 k ∧ Hid (∀ (t : Nat) (b : Tide.Req), t < k → l[t]? = some b → Tide.freeF l b = false)) (fun i => l.length - (intOf i).toNat)
  case atStart => exact ⟨0, by omega, rfl, Lib.hid (fun t b ht => by omega)⟩
  case round =>
    obtain ⟨k, hk, rfl, hno⟩ := hrel
    by_cases hlt : k < l.length
    · obtain ⟨r, hr⟩ := Tide.get_some l hlt
      obtain ⟨b, cap', e, hS, _, _, hbl, c0, c1, c2, c3, c4, _⟩ := HH.out.req hr
      cases e
      have i0 : (0 : Int) ≤ (k : Int) := by omega
      have i1 : (k : Int) < (l.length : Int) := by omega
      have HR := Lib.hid hr
      have hsrc := Lib.hid (HN.out k r hr).2.1
      clear hr
      have HNo := Lib.hid (show Tide.freeF l r = false → ∀ (t : Nat) (b : Tide.Req), t < k + 1 → l[t]? = some b → Tide.freeF l b = false from fun hw t b ht hb => by
        rcases Nat.lt_succ_iff_lt_or_eq.mp ht with h | h
        · exact hno.out t b h hb
        · subst h; rw [HR.out] at hb; cases hb; exact hw)
      cases hf : (r.fate == 1)
      · have HX := Lib.hid (HNo.out (by unfold Tide.freeF; rw [hf]; rfl))
        clear hno
        go_wp2_with fail
        go_round
        case rel => exact ⟨k + 1, by omega, by go_num, HX⟩
        case measure => simp [intOf]; omega
      · go_wp2_with fail
        refine (halMany S g _ l r.source 2 _ HH.out (by have := hsrc.out; omega)).mono ?_
        rintro e w1 ⟨rfl, rfl⟩
        have HU := Lib.hid (show Tide.freeF l r = (Tide.countF r.source 2 l == 0) by unfold Tide.freeF; rw [hf]; rfl)
        generalize Tide.countF r.source 2 l = c at HU ⊢
        cases hz : (c == 0)
        · have HX := Lib.hid (HNo.out (by rw [HU.out, hz]))
          clear hno
          go_wp2_with fail
          go_round
          case rel => exact ⟨k + 1, by omega, by go_num, HX⟩
          case measure => simp [intOf]; omega
        · have HX := Lib.hid (nextH_some (Tide.firstAt_some hno.out HR.out (by rw [HU.out, hz])))
          clear hno
          go_wp2_with fail
          go_ret2
          have e2 : decide (0 < (k : Int) + 1) = true := decide_eq_true (by omega)
          exact ⟨by rw [HX.out, e2] <;> rfl, rfl⟩
    · have hke : k = l.length := by omega
      have HX := Lib.hid (nextH_none (Tide.firstAt_none fun t b hb => hno.out t b (by rw [hke]; exact Tide.get_lt hb) hb))
      clear hno hke
      go_wp2_with fail
      go_ret2
      exact ⟨by rw [HX.out] <;> rfl, rfl⟩

theorem any_snoc {p : Tide.Req → Bool} {l : List Tide.Req} {k : Nat} {a : Tide.Req} (h : l[k]? = some a) : (l.take (k + 1)).any p = ((l.take k).any p || p a) := by
  rw [Tide.take_of_get h, List.any_append]; simp
set_option maxRecDepth 100000 in
set_option maxHeartbeats 3200000 in
theorem halRun (S : Nat → Prop) (g : Nat) (v : Value) (l : List Tide.Req) (id pod : Int) (w : World) (h : BAt 47 S w g v l) (hn : Tide.Numbered l) :
    Calls Try.prog 24 #[.pointer (some ⟨g, 0, none⟩), .int .i64 id, .int .i64 pod] w (RunPost 47 S w g l id pod) := by
  obtain ⟨A, cap, rfl, _, _, _⟩ := h.row.slice
  have hc : w.cell? ⟨g, 0, none⟩ = some (.slice A l.length cap) := h.head.here rfl
  have hs := h.small
  have HH := Lib.hid h
  have HN := Lib.hid hn
  clear h hn
  cases hq : Tide.reqAt l id with
  | none =>
    have HF := Lib.hid (show RunPost 47 S w g l id pod (.returned (.int .i64 4)) w from ⟨by unfold Tide.runErr; rw [hq], ⟨_, by unfold Tide.runLst; rw [hq]; exact HH.out⟩, Tide.Chg.refl _ _⟩)
    have HQ := Lib.hid (reqAt_none hq)
    clear hq
    go_enter Try.func24, Try.ntmps24
    go_wp2_with fail
    refine (refIn_no _ _ _ _ HQ.out).mono ?_
    rintro e w1 ⟨rfl, rfl⟩
    go_wp2_with fail
    go_ret
    exact HF.out
  | some r =>
    obtain ⟨K, rfl, hr⟩ := reqAt_some hq
    obtain ⟨b, cap', e, hS, _, _, hbl, c0, c1, c2, c3, c4, fz⟩ := HH.out.req hr
    cases e
    have hkl := Tide.get_lt hr
    have HR := Lib.hid hr; have HQ := Lib.hid hq; have HK := Lib.hid hkl
    have HI := Lib.hid (Tide.firstN_is HN.out hr)
    have i0 : (0 : Int) ≤ (K : Int) := by omega
    have i1 : (K : Int) < (l.length : Int) := by omega
    have i2 : (1 : Int) ≤ (K : Int) + 1 := by omega
    have i3 : (K : Int) + 1 ≤ (l.length : Int) := by omega
    have hsrc := Lib.hid (HN.out K r hr).2.1
    clear hr hq hkl c0 c2 c4 fz hbl
    go_enter Try.func24, Try.ntmps24
    go_wp2_with fail
    refine (refIn_yes _ _ _ _ i2 i3).mono ?_
    rintro e w1 ⟨rfl, rfl⟩
    have HU := Lib.hid (show Tide.freeF l r = ((r.fate == 1) && (Tide.countF r.source 2 l == 0)) from rfl)
    have HL : ∀ B : Bool, Hid (Tide.freeF l r = B) → Hid (B = true → Tide.freeF l r = true) := fun B h => Lib.hid (fun e => h.out.trans e)
    obtain ⟨B, HB⟩ : ∃ B, Hid (Tide.freeF l r = B) := ⟨_, Lib.hid rfl⟩
    clear HL
    cases hf : (r.fate == 1)
    case' false =>
      obtain rfl : B = false := HB.out.symm.trans (by rw [HU.out, hf]; rfl)
      clear HU
      go_wp2_with fail
      clear hf
    case' true =>
      go_wp2_with fail
      refine (halMany S g _ l r.source 2 _ HH.out (by have := hsrc.out; omega)).mono ?_
      rintro e w1 ⟨rfl, rfl⟩
      obtain rfl : B = (Tide.countF r.source 2 l == 0) := HB.out.symm.trans (by rw [HU.out, hf]; rfl)
      clear HU hf
      generalize Tide.countF r.source 2 l = c at HB ⊢
      go_wp2_with fail
    all_goals
      go_loopw [8, 9] (fun o i wr => ∃ k : Nat, k ≤ K ∧ i = .int .i64 k ∧ o = .bool (Tide.freeF l r && !((l.take k).any (Tide.waitsOf r.source))) ∧ Tide.Chg (fun _ => False) w wr) (fun _ i _ => K - (intOf i).toNat)
      case atStart => exact ⟨0, by omega, rfl, by rw [HB.out]; simp, Tide.Chg.refl _ _⟩
      case round =>
        clear hc c1 c3
        obtain ⟨k, hk, rfl, rfl, hch⟩ := hrel
        have HCh := Lib.hid hch
        have HW := Lib.hid (HH.out.chg hch (fun _ _ h => h))
        clear hch
        by_cases hlt : k < K
        · have HKl := Lib.hid (show k < l.length by have := HK.out; omega)
          obtain ⟨q, hq⟩ := Tide.get_some l HKl.out
          obtain ⟨b', cap', e, _, _, _, _, d0, d1, d2, d3, d4, _⟩ := HW.out.req hq
          cases e
          obtain ⟨b', cap', e, _, _, _, _, c0, c1, c2, c3, c4, _⟩ := HW.out.req HR.out
          cases e
          have hc : wr.cell? ⟨g, 0, none⟩ = some (.slice (some ⟨b, 0, none⟩) l.length cap) := HW.out.head.here rfl
          have HA := Lib.hid (any_snoc (p := Tide.waitsOf r.source) hq)
          have j0 : (0 : Int) ≤ (k : Int) := by omega
          have j1 : (k : Int) < (l.length : Int) := by omega
          have j2 : (k : Int) < (K : Int) := by omega
          clear hq d0 d2 d4 c0 c2 c3 c4 HKl
          generalize (l.take k).any (Tide.waitsOf r.source) = y at HA ⊢
          generalize Tide.freeF l r = z at HB HI ⊢
          cases hok : (z && !y)
          · have HX := Lib.hid (show (z && !(y || Tide.waitsOf r.source q)) = false by cases z <;> cases y <;> simp_all)
            clear hok
            go_wp2_with fail
            go_quiet (fail)
            go_wp2_with fail
            go_roundw
            case rel => exact ⟨k + 1, by omega, by go_num, by rw [HA.out, HX.out], HCh.out.drewN _⟩
            case measure => simp [intOf]; omega
          · cases hs1 : (q.source == r.source)
            · have HX := Lib.hid (show (z && !(y || Tide.waitsOf r.source q)) = true by unfold Tide.waitsOf; rw [hs1]; cases z <;> cases y <;> simp_all)
              clear hok
              go_wp2_with fail
              go_quiet (fail)
              go_wp2_with fail
              go_roundw
              case rel => exact ⟨k + 1, by omega, by go_num, by rw [HA.out, HX.out], HCh.out.drewN _⟩
              case measure => simp [intOf]; omega
            · cases hs2 : (q.fate == 1)
              · have HX := Lib.hid (show (z && !(y || Tide.waitsOf r.source q)) = true by unfold Tide.waitsOf; rw [hs1, hs2]; cases z <;> cases y <;> simp_all)
                clear hok
                go_wp2_with fail
                go_quiet (fail)
                go_wp2_with fail
                go_roundw
                case rel => exact ⟨k + 1, by omega, by go_num, by rw [HA.out, HX.out], HCh.out.drewN _⟩
                case measure => simp [intOf]; omega
              · have HX := Lib.hid (show (z && !(y || Tide.waitsOf r.source q)) = false by unfold Tide.waitsOf; rw [hs1, hs2]; cases z <;> cases y <;> simp_all)
                clear hok
                go_wp2_with fail
                go_quiet (fail)
                go_wp2_with fail
                go_roundw
                case rel => exact ⟨k + 1, by omega, by go_num, by rw [HA.out, HX.out], HCh.out.drewN _⟩
                case measure => simp [intOf]; omega
        · have hke : k = K := by omega
          subst hke
          have HI2 := Lib.hid HI.out
          clear hlt hk
          cases hok : (Tide.freeF l r && !((l.take k).any (Tide.waitsOf r.source)))
          · have hf : ¬ Tide.firstN l r.source = (k : Int) + 1 := fun e => by have := HI2.out.1 e; rw [hok] at this; cases this
            have HF := Lib.hid (show RunPost 47 S w g l ((k : Int) + 1) pod (.returned (.int .i64 7)) wr from ⟨by unfold Tide.runErr; rw [HQ.out]; simp only; rw [if_neg hf], ⟨_, by unfold Tide.runLst; rw [HQ.out]; simp only; rw [if_neg hf]; exact HW.out⟩, HCh.out.mono (fun _ _ h => h.elim)⟩)
            clear hf hok
            go_wp2_with fail
            go_ret
            exact HF.out
          · have HFi := Lib.hid (HI2.out.2 hok)
            obtain ⟨b', cap', e, _, _, _, _, c0, c1, c2, c3, c4, fz⟩ := HW.out.req HR.out
            cases e
            have f3 := fz (k * 5 + 3); have f4 := fz (k * 5 + 4)
            clear fz c0 c1 c2 hok
            go_wp2_with fail
            go_ret
            obtain ⟨p1, p2⟩ := HW.out.put (by decide) (k := k) (j := 3) (r' := { r with fate := 2 }) (u := .int .i64 2) HR.out (by decide) rfl
            obtain ⟨p3, p4⟩ := p1.put (by decide) (k := k) (j := 4) (r' := { r with fate := 2, pod := pod }) (u := .int .i64 pod) (List.getElem?_set_self HK.out) (by decide) rfl
            rw [List.set_set] at p3
            refine ⟨?_, ⟨.slice (some ⟨b, 0, none⟩) l.length cap, ?_⟩, ((HCh.out.mono (fun _ _ h => h.elim)).trans p2).trans p4⟩
            · unfold Tide.runErr; rw [HQ.out]; simp only; rw [if_pos HFi.out]; rfl
            · unfold Tide.runLst; rw [HQ.out]; simp only; rw [if_pos HFi.out, show ((k : Int) + 1 - 1).toNat = k by omega]; exact p3

set_option maxRecDepth 100000 in
set_option maxHeartbeats 3200000 in
theorem halDone (S : Nat → Prop) (g : Nat) (v : Value) (l : List Tide.Req) (id : Int) (w : World) (h : BAt 47 S w g v l) :
    Calls Try.prog 25 #[.pointer (some ⟨g, 0, none⟩), .int .i64 id] w (DonePost 47 S w g l id) := by
  obtain ⟨A, cap, rfl, _, _, _⟩ := h.row.slice
  have hc : w.cell? ⟨g, 0, none⟩ = some (.slice A l.length cap) := h.head.here rfl
  have hs := h.small
  have HH := Lib.hid h
  clear h
  cases hq : Tide.reqAt l id with
  | none =>
    have HF := Lib.hid (show DonePost 47 S w g l id (.returned (.tuple #[.int .i64 0, .int .i64 4])) w from ⟨by unfold Tide.doneErr Tide.doneNum; rw [hq], ⟨_, by unfold Tide.doneLst; rw [hq]; exact HH.out⟩, Tide.Chg.refl _ _⟩)
    have HQ := Lib.hid (reqAt_none hq)
    clear hq
    go_enter Try.func25, Try.ntmps25
    go_wp2_with fail
    refine (refIn_no _ _ _ _ HQ.out).mono ?_
    rintro e w1 ⟨rfl, rfl⟩
    go_wp2_with fail
    go_ret2
    exact HF.out
  | some r =>
    obtain ⟨k, rfl, hr⟩ := reqAt_some hq
    obtain ⟨b, cap', e, hS, _, _, hbl, c0, c1, c2, c3, c4, fz⟩ := HH.out.req hr
    cases e
    have hkl := Tide.get_lt hr
    have f3 := fz (k * 5 + 3)
    have HR := Lib.hid hr; have HQ := Lib.hid hq; have HK := Lib.hid hkl
    have i0 : (0 : Int) ≤ (k : Int) := by omega
    have i1 : (k : Int) < (l.length : Int) := by omega
    have i2 : (1 : Int) ≤ (k : Int) + 1 := by omega
    have i3 : (k : Int) + 1 ≤ (l.length : Int) := by omega
    have hgb := Lib.hid (HH.out.apart (by decide) b rfl)
    clear hr hq hkl c0 c1 c2 fz hbl
    by_cases hf : r.fate = 2
    · have HF := Lib.hid hf
      obtain ⟨p1, p2⟩ := HH.out.put (by decide) (k := k) (j := 3) (r' := { r with fate := 3 }) (u := .int .i64 3) HR.out (by decide) rfl
      have hc2 : (w.setCell ⟨b, k * 5 + 3, none⟩ (.int .i64 3)).cell? ⟨g, 0, none⟩ = some (.slice (some ⟨b, 0, none⟩) l.length cap) := p1.head.here rfl
      obtain ⟨b', cap', e, _, _, _, _, d0, d1, d2, d3, d4, _⟩ := p1.req (List.getElem?_set_self HK.out)
      rw [List.length_set] at e
      cases e
      have P1 := Lib.hid p1; have P2 := Lib.hid p2
      rw [hf] at c3
      clear hf p1 p2 d0 d1 d2 d3
      go_enter Try.func25, Try.ntmps25
      go_wp2_with fail
      refine (refIn_yes _ _ _ _ i2 i3).mono ?_
      rintro e w1 ⟨rfl, rfl⟩
      go_wp2_with fail
      go_ret2
      refine ⟨?_, ⟨.slice (some ⟨b, 0, none⟩) l.length cap, ?_⟩, P2.out⟩
      · unfold Tide.doneErr Tide.doneNum; rw [HQ.out]; simp only; rw [if_pos HF.out, if_pos HF.out]; rfl
      · unfold Tide.doneLst; rw [HQ.out]; simp only; rw [if_pos HF.out, show ((k : Int) + 1 - 1).toNat = k by omega]; exact P1.out
    · have HF := Lib.hid (show DonePost 47 S w g l ((k : Int) + 1) (.returned (.tuple #[.int .i64 0, .int .i64 7])) w from ⟨by unfold Tide.doneErr Tide.doneNum; rw [HQ.out]; simp only; rw [if_neg hf, if_neg hf], ⟨_, by unfold Tide.doneLst; rw [HQ.out]; simp only; rw [if_neg hf]; exact HH.out⟩, Tide.Chg.refl _ _⟩)
      have hf3 : (r.fate == 2) = false := by simp only [beq_eq_false_iff_ne]; exact hf
      go_enter Try.func25, Try.ntmps25
      go_wp2_with fail
      refine (refIn_yes _ _ _ _ i2 i3).mono ?_
      rintro e w1 ⟨rfl, rfl⟩
      go_wp2_with fail
      go_ret2
      exact HF.out
end Go.Proofs.Ytgcdomoecikooaa
