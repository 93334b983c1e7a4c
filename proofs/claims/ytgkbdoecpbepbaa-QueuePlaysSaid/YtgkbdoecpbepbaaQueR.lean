/- The contracts of the reference's queue: at, Put, Lease. -/
import Derived.Test.YtgkbdoecpbepbaaQueE
import Derived.Test.YtgkbdoecpbepbaaInC
namespace Go.Proofs.Ytgkbdoecpbepbaa
open Go.RowKit
set_option linter.unusedVariables false

/-- a message's three cells are stored -/
theorem QAt.put3 {T : TypeId} {S : Nat → Prop} {w : World} {g b cap n : Nat} {l : List Tide.Msg} {last : Int} (h : QAt T S w g (.slice (some ⟨b, 0, none⟩) n cap) l last) (hT : T ≠ 74) {k : Nat} {m : Tide.Msg} (hk : l[k]? = some m) (d t : Int) (x : Bool) :
    QAt T S (((w.setCell ⟨b, k * 3, none⟩ (.int .i64 d)).setCell ⟨b, k * 3 + 1, none⟩ (.int .i64 t)).setCell ⟨b, k * 3 + 2, none⟩ (.bool x)) g (.slice (some ⟨b, 0, none⟩) n cap) (l.set k ⟨d, t, x⟩) last ∧
    Tide.Chg S w (((w.setCell ⟨b, k * 3, none⟩ (.int .i64 d)).setCell ⟨b, k * 3 + 1, none⟩ (.int .i64 t)).setCell ⟨b, k * 3 + 2, none⟩ (.bool x)) := by
  have hkl := Tide.get_lt hk
  obtain ⟨b', cap', e, hS, h1, h2, h3⟩ := h.row.form (by omega)
  cases e
  have hgb : g ≠ b := (h3.apartAt h.head (Ne.symm hT)).symm
  have hr := h.row
  have f0 := Tide.flat_lt Tide.Msg.enc_length hkl (show 0 < 3 by omega)
  have f1 := Tide.flat_lt Tide.Msg.enc_length hkl (show 1 < 3 by omega)
  have f2 := Tide.flat_lt Tide.Msg.enc_length hkl (show 2 < 3 by omega)
  refine ⟨⟨((h.head.other (p := ⟨b, k * 3, none⟩) hgb _).other (p := ⟨b, k * 3 + 1, none⟩) hgb _).other (p := ⟨b, k * 3 + 2, none⟩) hgb _, ?_, h.own, by rw [List.length_set]; exact h.small, fun b hb => by rw [Tide.size_put, Tide.size_put, Tide.size_put]; exact h.lim b hb⟩,
    (((Tide.Chg.refl S w).put (p := ⟨b, k * 3, none⟩) (.inl hS) _).put (p := ⟨b, k * 3 + 1, none⟩) (.inl hS) _).put (p := ⟨b, k * 3 + 2, none⟩) (.inl hS) _⟩
  have p1 := ((hr.put (i := k * 3) f0 (.int .i64 d)).put (i := k * 3 + 1) (by rw [List.length_set]; exact f1) (.int .i64 t)).put (i := k * 3 + 2) (by rw [List.length_set, List.length_set]; exact f2) (.bool x)
  have e0 := Tide.flat_set (j := 0) (u := .int .i64 d) (a' := ⟨d, m.till, m.taken⟩) Tide.Msg.enc_length hk (by omega) rfl
  rw [Nat.add_zero] at e0
  rw [e0, Tide.flat_set (a := ⟨d, m.till, m.taken⟩) (a' := ⟨d, t, m.taken⟩) Tide.Msg.enc_length (by simp [hkl]) (by omega) rfl, List.set_set, Tide.flat_set (a := ⟨d, t, m.taken⟩) (a' := ⟨d, t, x⟩) Tide.Msg.enc_length (by simp [hkl]) (by omega) rfl, List.set_set] at p1
  rw [List.length_set]
  exact p1

set_option maxRecDepth 100000 in
set_option maxHeartbeats 1600000 in
theorem linAt (S : Nat → Prop) (g : Nat) (v : Value) (l : List Tide.Msg) (last now : Int) (w : World) (h : QAt 69 S w g v l last) :
    Calls Try.prog 54 #[.pointer (some ⟨g, 0, none⟩), .int .i64 now] w fun e w' => e = .returned (.bool (Tide.nowOk now)) ∧ QAt 69 S w' g v (Tide.nowLst l now) last ∧ Tide.Chg S w w' := by
  by_cases h0 : 0 ≤ now ∧ now ≤ 1099511627776
  · obtain ⟨n0, n1⟩ := h0
    have e : Tide.nowOk now = true := by unfold Tide.nowOk; simp; omega
    rw [show Tide.nowLst l now = Tide.backAll now l by unfold Tide.nowLst; rw [e]; rfl, e]
    obtain ⟨A, cap, rfl, k1, k2, _⟩ := h.row.slice
    have hs := h.small
    have HH := Lib.hid h
    clear h e k1 k2
    go_enter Try.func54, Try.ntmps54
    go_wp2_with fail
    refine (refIn_yes _ _ _ _ n0 n1).mono ?_
    rintro e w' ⟨rfl, rfl⟩
    go_wp2_with fail
    go_loopw [5] (fun i wr => ∃ k : Nat, k ≤ l.length ∧ i = .int .i64 k ∧ QAt 69 S wr g (.slice A l.length cap) (Tide.upTo (Tide.back now) l k) last ∧ Tide.Chg S w wr) (fun i _ => l.length - (intOf i).toNat)
    case atStart => exact ⟨0, by omega, rfl, by rw [Tide.upTo_zero]; exact HH.out, Tide.Chg.refl _ _⟩
    case round =>
      obtain ⟨k, hk, rfl, hq, hch⟩ := hrel
      have hcg : wr.cell? ⟨g, 0, none⟩ = some (.slice A l.length cap) := hq.head.here rfl
      by_cases hlt : k < l.length
      · obtain ⟨m, hm⟩ := Tide.get_some l hlt
        have hm2 : (Tide.upTo (Tide.back now) l k)[k]? = some m := by rw [Tide.upTo_get]; exact hm
        obtain ⟨b, cap', e, hS, hgb, k1, k2, c0, c1, c2, f0, f1, f2⟩ := hq.msg (by decide) hm2
        rw [Tide.upTo_length] at e
        cases e
        have i0 : (0 : Int) ≤ (k : Int) := by omega
        have i1 : (k : Int) < (l.length : Int) := by omega
        by_cases ht : m.taken = true ∧ m.till ≤ now
        · obtain ⟨t1, t2⟩ := ht
          have HN := Lib.hid (hq.put3 (by decide) hm2 m.id 0 false)
          have HE := Lib.hid (Tide.upTo_succ (f := Tide.back now) hm)
          have HB := Lib.hid (show Tide.back now m = ⟨m.id, 0, false⟩ by unfold Tide.back; rw [t1]; simp [t2])
          have HC := Lib.hid hch
          clear hq hch hm hm2 k1 k2
          go_wp2_with fail
          go_region
          all_goals
            go_wp2_with fail
            go_roundw
            case rel => exact ⟨k + 1, by omega, by go_num, by rw [← HE.out, HB.out]; exact HN.out.1.drew, (HC.out.trans HN.out.2).drew⟩
            case measure => simp [intOf]; omega
        · have HB := Lib.hid (Tide.upTo_same (f := Tide.back now) hm (by unfold Tide.back; rw [if_neg]; simpa using ht))
          have HQ := Lib.hid hq
          have HC := Lib.hid hch
          clear hq hch hm hm2 k1 k2
          cases t1 : m.taken
          · rw [t1] at c2
            clear ht t1
            go_wp2_with fail
            go_roundw
            case rel => exact ⟨k + 1, by omega, by go_num, by rw [HB.out]; exact HQ.out, HC.out⟩
            case measure => simp [intOf]; omega
          · rw [t1] at c2
            have t2 : now < m.till := by
              rcases Int.lt_or_le now m.till with c | c
              · exact c
              · exact absurd ⟨t1, c⟩ ht
            clear ht t1
            go_wp2_with fail
            go_roundw
            case rel => exact ⟨k + 1, by omega, by go_num, by rw [HB.out]; exact HQ.out, HC.out⟩
            case measure => simp [intOf]; omega
      · have hke : k = l.length := by omega
        have HE := Lib.hid (Tide.upTo_all (Tide.back now) l)
        rw [hke] at hq
        have HQ := Lib.hid hq
        have HC := Lib.hid hch
        clear hq hch hke
        go_wp2_with fail
        go_ret
        exact ⟨rfl, by have := HQ.out; rw [HE.out] at this; exact this, HC.out⟩
  · have hb : now < 0 ∨ 1099511627776 < now := by omega
    have e : Tide.nowOk now = false := by unfold Tide.nowOk; simp; omega
    have HH := Lib.hid h
    rw [show Tide.nowLst l now = l by unfold Tide.nowLst; rw [e]; rfl, e]
    clear h e h0
    go_enter Try.func54, Try.ntmps54
    go_wp2_with fail
    refine (refIn_no _ _ _ _ hb).mono ?_
    rintro e w' ⟨rfl, rfl⟩
    go_wp2_with fail
    go_ret
    exact ⟨rfl, HH.out, Tide.Chg.refl _ _⟩

/-- a round of the reference's Put: the message laid, the list appended and stored -/
theorem put_round2 {T : TypeId} {S : Nat → Prop} {w wr w1 : World} {g b cap : Nat} {v : Value} {l : List Tide.Msg} {last : Int} {m : Tide.Msg} {o : Obj} (hq : QAt T (Tide.Plus S w wr) wr g v l last)
    (hc : Tide.Chg S w wr) (hT : T ≠ 74) (hl : l.length < 200)
    (h1 : w1.ownsRow 0 74 3 (.slice (some ⟨b, 0, none⟩) (l.length + 1) cap) (l.length + 1) (l.flatMap Tide.Msg.enc ++ m.enc)) (hg : (wr.alloc o).drew.grownBy w1 v.ownBlock)
    (ho : v.ownBlock = some b ∨ b = (wr.alloc o).drew.heap.size) (hlt : b < w1.heap.size) :
    QAt T (Tide.Plus S w (w1.setCell ⟨g, 0, none⟩ (.slice (some ⟨b, 0, none⟩) (l.length + 1) cap))) (w1.setCell ⟨g, 0, none⟩ (.slice (some ⟨b, 0, none⟩) (l.length + 1) cap)) g (.slice (some ⟨b, 0, none⟩) (l.length + 1) cap) (l ++ [m]) last ∧
    Tide.Chg S w (w1.setCell ⟨g, 0, none⟩ (.slice (some ⟨b, 0, none⟩) (l.length + 1) cap)) := by
  obtain ⟨q1, q2⟩ := (hq.alloc o).drew.appended hT hl h1 hg ho hlt
  have z1 := hc.size
  have z2 : (wr.alloc o).drew.heap.size = wr.heap.size + 1 := by show (wr.alloc o).heap.size = _; simp
  have z3 := q2.size
  refine ⟨q1.mono (fun c hlt hb => ?_) (fun c hb => ?_), ?_⟩
  · rcases hb with hb | hb
    · exact hb.up (by omega)
    · exact .inr ⟨by omega, hlt⟩
  · rcases hb with hb | hb
    · have := hq.lim c (.inl hb); omega
    · exact hb.2
  · have s1 : Tide.Chg (Tide.Plus S w wr) wr (wr.alloc o).drew := ((Tide.Chg.refl _ wr).alloc o).drew
    exact hc.plus (s1.trans q2)

theorem QAt.tickP {T : TypeId} {S : Nat → Prop} {w0 w : World} {g : Nat} {v : Value} {l : List Tide.Msg} {last : Int} (h : QAt T (Tide.Plus S w0 w) w g v l last) (hT : T ≠ 74) (x : Int) : QAt T (Tide.Plus S w0 (w.setCell ⟨g, 1, none⟩ (.int .i64 x))) (w.setCell ⟨g, 1, none⟩ (.int .i64 x)) g v l x := by
  have e := Tide.size_put w ⟨g, 1, none⟩ (.int .i64 x)
  have e2 : ∀ b, Tide.Plus S w0 (w.setCell ⟨g, 1, none⟩ (.int .i64 x)) b ↔ Tide.Plus S w0 w b := fun b => by unfold Tide.Plus; rw [e]
  exact (h.tick hT x).mono (fun b _ hb => (e2 b).2 hb) (fun b hb => by rw [e]; exact h.lim b ((e2 b).1 hb))

set_option maxRecDepth 100000 in
set_option maxHeartbeats 3200000 in
theorem linPut (S : Nat → Prop) (g : Nat) (v : Value) (l : List Tide.Msg) (last n : Int) (w : World) (h : QAt 69 S w g v l last) (l0 : 0 ≤ last) (l1 : last ≤ 4000000000000000000) :
    Calls Try.prog 33 #[.pointer (some ⟨g, 0, none⟩), .int .i64 n] w (PutPost 69 S w g l last n) := by
  obtain ⟨A, cap, rfl, k1, k2, _⟩ := h.row.slice
  have hc : w.cell? ⟨g, 0, none⟩ = some (.slice A l.length cap) := h.head.here rfl
  have hs := h.small
  have HH := Lib.hid h
  clear h k1 k2
  by_cases h0 : n < 1
  · have HF := Lib.hid (show PutPost 69 S w g l last n (.returned (.tuple #[.int .i64 0, .int .i64 1])) w from ⟨by simp [Tide.putNum, Tide.putErr, h0], ⟨_, by simp [Tide.putLst, Tide.putLast, h0]; exact HH.out.up⟩, Tide.Chg.refl _ _⟩)
    go_enter Try.func33, Try.ntmps33
    go_wp2_with fail
    go_ret2
    exact HF.out
  by_cases h1 : 200 < n + l.length
  · have HF := Lib.hid (show PutPost 69 S w g l last n (.returned (.tuple #[.int .i64 0, .int .i64 6])) w from ⟨by simp [Tide.putNum, Tide.putErr, h0, h1], ⟨_, by simp [Tide.putLst, Tide.putLast, h0, h1]; exact HH.out.up⟩, Tide.Chg.refl _ _⟩)
    by_cases h2 : 200 < n
    · go_enter Try.func33, Try.ntmps33
      go_wp2_with fail
      go_ret2
      exact HF.out
    · have h3 : 200 < (l.length : Int) + n := by omega
      have h4 : n ≤ 200 := by omega
      clear h2 h1
      go_enter Try.func33, Try.ntmps33
      go_wp2_with fail
      go_ret2
      exact HF.out
  obtain ⟨N, rfl⟩ := Int.eq_ofNat_of_zero_le (show 0 ≤ n by omega)
  have hN : N + l.length ≤ 200 := by omega
  have HF : ∀ w', (∃ v', QAt 69 (Tide.Plus S w w') w' g v' (l ++ Tide.newMsgs last N) (last + N)) → Tide.Chg S w w' → PutPost 69 S w g l last (N : Int) (.returned (.tuple #[.int .i64 (last + 1), .int .i64 0])) w' := fun w' ⟨v', hq⟩ hch =>
    ⟨by simp only [Tide.putNum, Tide.putErr, if_neg h0, if_neg h1], ⟨v', by simp only [Tide.putLst, Tide.putLast, if_neg h0, if_neg h1, Int.toNat_natCast]; exact hq⟩, hch⟩
  have HF' := Lib.hid HF
  have h2 : (l.length : Int) + (N : Int) ≤ 200 := by omega
  have h3 : (1 : Int) ≤ (N : Int) := by omega
  have h4 : (N : Int) ≤ 200 := by omega
  obtain ⟨i0, hi, hz0, hz1, hz2⟩ := info_parts info_msg
  clear h0 h1 HF
  go_enter Try.func33, Try.ntmps33
  go_wp2_with fail
  go_loopw [6] (fun i wr => ∃ (k : Nat) (vk : Value), k ≤ N ∧ i = .int .i64 ((k : Int) + 1) ∧ QAt 69 (Tide.Plus S w wr) wr g vk (l ++ Tide.newMsgs last k) last ∧ Tide.Chg S w wr) (fun i _ => N + 1 - (intOf i).toNat)
  case atStart => exact ⟨0, _, by omega, rfl, by simpa [Tide.newMsgs] using HH.out.up, Tide.Chg.refl _ _⟩
  case round =>
    clear hc
    obtain ⟨k, vk, hk, rfl, hq, hch⟩ := hrel
    by_cases hlt : k < N
    · have hL : (l ++ Tide.newMsgs last k).length < 200 := by simp [Tide.newMsgs_length]; omega
      have HL := Lib.hid (show l ++ Tide.newMsgs last (k + 1) = (l ++ Tide.newMsgs last k) ++ [⟨last + (k + 1), 0, false⟩] by rw [Tide.newMsgs_succ, List.append_assoc, show last + 1 + (k : Int) = last + (k + 1) by omega])
      generalize l ++ Tide.newMsgs last k = L at hq hL HL ⊢
      have hc : wr.cell? ⟨g, 0, none⟩ = some vk := hq.head.here rfl
      have hd : wr.cell? ⟨g, 1, none⟩ = some (.int .i64 last) := hq.head.here rfl
      have f0 := hq.head.soft 0; have f1 := hq.head.soft 1
      have HQ := Lib.hid hq
      have HC := Lib.hid hch
      have hm3 : Hid (L.length + 1 ≤ maxLen) := by show _ ≤ _; simp only [maxLen]; omega
      have hm4 : Hid ((L.length + 1) * 24 ≤ 140737488355328) := by show _ ≤ _; omega
      have hLL := Lib.hid hL
      have k0 : (k : Int) + 1 ≤ (N : Int) := by omega
      have k1 : (k : Int) ≤ 200 := by omega
      have hgw : g < wr.heap.size := hq.head.inside
      have hsum : IntKind.i64.wrap (last + ((k : Int) + 1)) = last + ((k : Int) + 1) := IntWalk.i64_in _ (by omega)
      clear hq hch hL
      go_wp2_with fail
      go_region_law (refine step_append_lies _ (by rfl) (.tmp 30) (.tmp 38) 48 (by rfl) 0 74 i0 (.agg #[.int .i64 0, .int .i64 0, .bool false]) 3 24 Try.underlying48 hi hz0 hz1 hz2 rfl (by decide) vk _ _ rfl (HQ.out.alloc _).drew.row.owns ⟨wr.heap.size, 0, none⟩ 1 1 [.int .i64 (last + (k + 1)), .int .i64 0, .bool false] rfl rfl (Tide.new_cells_at rfl) (by simp [Value.oneCell']) (by decide) hm3.out hm4.out (Nat.zero_le _) _ rfl ?_; intro gb cap1 w1 hown1 hg1 hl1 hl2; obtain ⟨c9, f9⟩ := (HQ.out.alloc _).drew.behind (by decide) hg1)
      all_goals
        have HR := Lib.hid (put_round2 (m := ⟨last + (k + 1), 0, false⟩) HQ.out HC.out (by decide) hLL.out hown1 hg1 hl1 hl2)
        clear hown1 hg1 hl1 hl2 c9 f9 hc hd f0 f1
        go_wp2_with fail
        go_roundw
        case rel => exact ⟨k + 1, _, by omega, by go_num, by rw [HL.out]; exact HR.out.1, HR.out.2⟩
        case measure => simp [intOf]; omega
    · have hke : k = N := by omega
      subst hke
      have hd : wr.cell? ⟨g, 1, none⟩ = some (.int .i64 last) := hq.head.here rfl
      have f1 := hq.head.soft 1
      have HF2 := Lib.hid (HF'.out _ ⟨vk, hq.tickP (by decide) (last + k)⟩ (hch.put (p := ⟨g, 1, none⟩) (by rcases hq.own with h | h; exact .inl h; exact .inr h.1) _))
      clear hq hch
      go_wp2_with fail
      go_ret2
      exact HF2.out

set_option maxRecDepth 100000 in
set_option maxHeartbeats 3200000 in
theorem linLease (S : Nat → Prop) (g : Nat) (v : Value) (l : List Tide.Msg) (last now ticks : Int) (w : World) (h : QAt 69 S w g v l last) :
    Calls Try.prog 34 #[.pointer (some ⟨g, 0, none⟩), .int .i64 now, .int .i64 ticks] w (LeasePost 69 S w g v l last now ticks) := by
  by_cases ht : 1 ≤ ticks ∧ ticks ≤ 100000
  · obtain ⟨t0, t1⟩ := ht
    have HH := Lib.hid h
    clear h
    go_enter Try.func34, Try.ntmps34
    go_wp2_with fail
    refine (refIn_yes _ _ _ _ t0 t1).mono ?_
    rintro e w' ⟨rfl, rfl⟩
    go_wp2_with fail
    refine (linAt S g v l last now _ HH.out).mono ?_
    rintro e w1 ⟨rfl, h1, c1⟩
    cases hn : Tide.nowOk now
    · rw [show Tide.nowLst l now = l by unfold Tide.nowLst; rw [hn]; rfl] at h1
      have HF := Lib.hid (lease_no (now := now) (ticks := ticks) h1 c1 (by unfold Tide.leaseOk; rw [hn]; simp))
      clear h1 c1 hn
      go_wp2_with fail
      go_ret2
      exact HF.out
    · rw [show Tide.nowLst l now = Tide.backAll now l by unfold Tide.nowLst; rw [hn]; rfl] at h1
      have hnn : 0 ≤ now ∧ now ≤ 1099511627776 := by unfold Tide.nowOk at hn; simpa using hn
      obtain ⟨n0, n1⟩ := hnn
      have hok := Lib.hid (show Tide.leaseOk now ticks = true by unfold Tide.leaseOk; rw [hn]; simp [t0, t1])
      have hcell : w1.cell? ⟨g, 0, none⟩ = some v := h1.head.here rfl
      obtain ⟨A, cap, rfl, _, _, _⟩ := h1.row.slice
      have H1 := Lib.hid h1; have C1 := Lib.hid c1
      have hs := h1.small
      clear h1 c1 hn
      go_wp2_with fail
      go_loop [8] (fun i => ∃ k : Nat, k ≤ (Tide.backAll now l).length ∧ i = .int .i64 k ∧ Hid (∀ (t : Nat) (b : Tide.Msg), t < k → (Tide.backAll now l)[t]? = some b → Tide.free b = false)) (fun i => (Tide.backAll now l).length - (intOf i).toNat)
      case atStart => exact ⟨0, by omega, rfl, fun t b ht => by omega⟩
      case round =>
        obtain ⟨k, hk, rfl, hno⟩ := hrel
        by_cases hlt : k < (Tide.backAll now l).length
        · obtain ⟨m, hm⟩ := Tide.get_some _ hlt
          obtain ⟨b, cap', e, hS, hgb, k1, k2, c0, c1, c2, f0, f1, f2⟩ := H1.out.msg (by decide) hm
          cases e
          have i0 : (0 : Int) ≤ (k : Int) := by omega
          have i1 : (k : Int) < ((Tide.backAll now l).length : Int) := by omega
          have HM := Lib.hid hm
          clear hm k1 k2
          cases ht : m.taken
          · have HFF := Lib.hid (Tide.firstAt_some hno.out HM.out (show Tide.free m = true by unfold Tide.free; rw [ht]; rfl))
            have HQ := Lib.hid (H1.out.put3 (by decide) HM.out m.id (now + ticks) true)
            have HF := Lib.hid (show LeasePost 69 S w g (.slice (some ⟨b, 0, none⟩) (Tide.backAll now l).length cap) l last now ticks (.returned (.tuple #[.int .i64 m.id, .int .i64 0])) _ from ⟨by simp [Tide.leaseNum, Tide.leaseErr, hok.out, HFF.out, HM.out], by simp only [Tide.leaseLst, hok.out, if_true, HFF.out]; rw [modify_at HM.out]; exact HQ.out.1.drew, C1.out.trans HQ.out.2.drew⟩)
            rw [ht] at c2
            clear ht hno
            go_wp2_with fail
            go_region
            all_goals
              go_wp2_with fail
              go_ret2
              exact HF.out
          · have HN := Lib.hid (show ∀ (t : Nat) (b : Tide.Msg), t < k + 1 → (Tide.backAll now l)[t]? = some b → Tide.free b = false from fun t b hlt hb => by
              rcases Nat.lt_succ_iff_lt_or_eq.mp hlt with h | h
              · exact hno.out t b h hb
              · subst h; rw [HM.out] at hb; cases hb; unfold Tide.free; rw [ht]; rfl)
            rw [ht] at c2
            clear ht hno
            go_wp2_with fail
            go_round
            case rel => exact ⟨k + 1, by omega, by go_num, HN⟩
            case measure => simp [intOf]; omega
        · have hke : k = (Tide.backAll now l).length := by omega
          have HN := Lib.hid (Tide.firstAt_none (p := Tide.free) (l := Tide.backAll now l) (fun t b hb => hno.out t b (by rw [hke]; exact Tide.get_lt hb) hb))
          have HF := Lib.hid (show LeasePost 69 S w g (.slice A (Tide.backAll now l).length cap) l last now ticks (.returned (.tuple #[.int .i64 0, .int .i64 4])) w1 from ⟨by simp only [Tide.leaseNum, Tide.leaseErr, hok.out, if_true, HN.out], by simp only [Tide.leaseLst, hok.out, if_true, HN.out]; exact H1.out, C1.out⟩)
          clear hno hke
          go_wp2_with fail
          go_ret2
          exact HF.out
  · have hb : ticks < 1 ∨ 100000 < ticks := by omega
    have HF := Lib.hid (lease_no (now := now) (ticks := ticks) h (Tide.Chg.refl _ _) (by unfold Tide.leaseOk; simp; omega))
    clear h ht
    go_enter Try.func34, Try.ntmps34
    go_wp2_with fail
    refine (refIn_no _ _ _ _ hb).mono ?_
    rintro e w' ⟨rfl, rfl⟩
    go_wp2_with fail
    go_ret2
    exact HF.out
end Go.Proofs.Ytgkbdoecpbepbaa
