/- The contracts of the reference's queue: Ack, All, Depth. -/
import Derived.Test.YtgkbdoecpbepbaaQueR
namespace Go.Proofs.Ytgkbdoecpbepbaa
open Go.RowKit
set_option linter.unusedVariables false

theorem app_left {w1 wr w2 : World} {v : Value} {n : Nat} {xs : List Value} {o : Obj} {T : TypeId} {k : Nat} (hb : Below w1.heap.size w1 wr) (ho : wr.ownsRow w1.heap.size T k v n xs) (hg : (wr.alloc o).grownBy w2 v.ownBlock) : Below w1.heap.size w1 w2 :=
  (hb.alloc hb.size o).grown hg (by have := hb.size; simp; omega) (Tide.own_ge ho)

theorem own_slice {w : World} {B : Nat} {T : TypeId} {k : Nat} {v : Value} {n : Nat} {xs : List Value} (h : w.ownsRow B T k v n xs) : ∃ A c, v = .slice A n c := by
  rcases h.2 with ⟨rfl, rfl⟩ | ⟨g, cap, cur, rfl, _⟩
  · exact ⟨none, 0, rfl⟩
  · exact ⟨_, cap, rfl⟩
/-- what is left is stored -/
theorem ack_end {T : TypeId} {S : Nat → Prop} {w w1 wr : World} {g : Nat} {v v7 : Value} {L F : List Tide.Msg} {last : Int} (h : QAt T S w1 g v L last) (hc : Tide.Chg S w w1) (hT : T ≠ 74) (ho : wr.ownsRow w1.heap.size 74 3 v7 F.length (F.flatMap Tide.Msg.enc))
    (hb : Below w1.heap.size w1 wr) (hl : F.length ≤ L.length) :
    (∃ v', QAt T (Tide.Plus S w (wr.setCell ⟨g, 0, none⟩ v7)) (wr.setCell ⟨g, 0, none⟩ v7) g v' F last) ∧ Tide.Chg S w (wr.setCell ⟨g, 0, none⟩ v7) := by
  have hA := h.head.below hb h.head.inside
  have hw := hc.size; have hw2 := hb.size
  have hr : Tide.OwnRow (Tide.Plus S w wr) wr 74 3 v7 F.length (F.flatMap Tide.Msg.enc) := Tide.OwnRow.of_owns ho (fun b hb' => .inr ⟨Nat.le_trans hw (Tide.own_ge ho b hb'), by
    rcases ho.2 with ⟨rfl, _⟩ | ⟨g', cap, cur, rfl, _, h5, _⟩
    · simp [Value.ownBlock] at hb'
    · simp [Value.ownBlock] at hb'; subst hb'
      rcases Nat.lt_or_ge g' wr.heap.size with hl' | hl'
      · exact hl'
      · rw [Array.getElem?_eq_none hl'] at h5; cases h5⟩)
  refine ⟨⟨v7, hA.put 0 _, ?_, .inl h.own, Nat.le_trans hl h.small, fun b hb' => ?_⟩, (hc.step_below hb hw).put (.inl h.own) _⟩
  · exact (hr.aside (p := ⟨g, 0, none⟩) (hr.apartAt hA (Ne.symm hT)) _).mono (fun b _ hb' => by rcases hb' with hb' | hb'; exact .inl hb'; exact .inr ⟨hb'.1, by rw [Tide.size_put]; exact hb'.2⟩)
  · rcases hb' with hb' | hb'
    · rw [Tide.size_put]; have := h.lim b hb'; omega
    · exact hb'.2

set_option maxRecDepth 100000 in
set_option maxHeartbeats 6400000 in
theorem linAck (S : Nat → Prop) (g : Nat) (v : Value) (l : List Tide.Msg) (last now id : Int) (w : World) (h : QAt 69 S w g v l last) (hup : Tide.Up l) :
    Calls Try.prog 35 #[.pointer (some ⟨g, 0, none⟩), .int .i64 now, .int .i64 id] w (fun e w' => e = .returned (.int .i64 (Tide.ackErr l now id)) ∧ (∃ v', QAt 69 (Tide.Plus S w w') w' g v' (Tide.ackLst l now id) last) ∧ Tide.Chg S w w') := by
  have HH := Lib.hid h; have HU := Lib.hid hup
  clear h hup
  go_enter Try.func35, Try.ntmps35
  go_wp2_with fail
  refine (linAt S g v l last now _ HH.out).mono ?_
  rintro e w1 ⟨rfl, h1, c1⟩
  cases hn : Tide.nowOk now
  · rw [show Tide.nowLst l now = l by unfold Tide.nowLst; rw [hn]; rfl] at h1
    have HF := Lib.hid (show Ending.returned (.int .i64 1) = .returned (.int .i64 (Tide.ackErr l now id)) ∧ (∃ v', QAt 69 (Tide.Plus S w w1) w1 g v' (Tide.ackLst l now id) last) ∧ Tide.Chg S w w1 from ⟨by simp [Tide.ackErr, hn], ⟨v, by simp only [Tide.ackLst, hn, Bool.false_eq_true, if_false]; exact h1.up⟩, c1⟩)
    clear h1 c1 hn
    go_wp2_with fail
    go_ret
    exact HF.out
  · rw [show Tide.nowLst l now = Tide.backAll now l by unfold Tide.nowLst; rw [hn]; rfl] at h1
    have hcell : w1.cell? ⟨g, 0, none⟩ = some v := h1.head.here rfl
    have HA := Lib.hid (Tide.ack_same (HU.out.backAll now) id)
    have HE := Lib.hid (show Tide.ackErr l now id = Tide.ackE id (Tide.backAll now l) ∧ Tide.ackLst l now id = (Tide.backAll now l).filter (Tide.stays id) by rw [HA.out.1, HA.out.2]; simp only [Tide.ackErr, Tide.ackLst, hn, if_true]; trivial)
    generalize Tide.backAll now l = L at h1 HE
    obtain ⟨A, cap, rfl, _, _, _⟩ := h1.row.slice
    have hs := h1.small
    have H1 := Lib.hid h1; have C1 := Lib.hid c1
    obtain ⟨i0, hi, hz0, hz1, hz2⟩ := info_parts info_msg
    clear h1 c1 hn HA HU
    go_wp2_with fail
    go_loopw [7, 8, 9] (fun v7 e8 i wr => ∃ k : Nat, k ≤ L.length ∧ i = .int .i64 k ∧ e8 = .int .i64 (Tide.ackE id (L.take k)) ∧ Hid (wr.ownsRow w1.heap.size 74 3 v7 ((L.take k).filter (Tide.stays id)).length (((L.take k).filter (Tide.stays id)).flatMap Tide.Msg.enc)) ∧ Below w1.heap.size w1 wr) (fun _ _ i _ => L.length - (intOf i).toNat)
    case atStart => exact ⟨0, by omega, rfl, rfl, ⟨by simp, .inl ⟨rfl, by simp⟩⟩, Below.refl _ _⟩
    case round =>
      obtain ⟨k, hk, rfl, rfl, hown, hb⟩ := hrel
      have hgl : g < w1.heap.size := H1.out.head.inside
      have hcg : wr.cell? ⟨g, 0, none⟩ = some (.slice A L.length cap) := (hb.cell (p := ⟨g, 0, none⟩) hgl).trans (H1.out.head.here rfl)
      clear hcell
      by_cases hlt : k < L.length
      · obtain ⟨m, hm⟩ := Tide.get_some L hlt
        obtain ⟨b, cap', e, hS, hgb, k1, k2, c0, c1, c2, _, _, _⟩ := H1.out.msg (by decide) hm
        cases e
        have hbl : b < w1.heap.size := H1.out.lim b hS
        have d0 := (hb.cell (p := ⟨b, k * 3, none⟩) hbl).trans c0
        have d1 := (hb.cell (p := ⟨b, k * 3 + 1, none⟩) hbl).trans c1
        have d2 := (hb.cell (p := ⟨b, k * 3 + 2, none⟩) hbl).trans c2
        have i0' : (0 : Int) ≤ (k : Int) := by omega
        have i1' : (k : Int) < (L.length : Int) := by omega
        have HS := Lib.hid (Tide.ackE_snoc id hm)
        have HFs := Lib.hid (Tide.filter_snoc (p := Tide.stays id) hm)
        have hfl : ((L.take k).filter (Tide.stays id)).length ≤ 200 := Nat.le_trans (List.length_filter_le _ _) (by rw [List.length_take]; omega)
        have HB := Lib.hid hb
        clear hm c0 c1 c2 k1 k2 hb
        generalize (L.take k).filter (Tide.stays id) = F at hown HFs hfl ⊢
        have hm3 := Lib.hid (show F.length + 1 ≤ maxLen by simp only [maxLen]; omega)
        have hm4 := Lib.hid (show (F.length + 1) * 24 ≤ 140737488355328 by omega)
        have hm5 := Lib.hid (show w1.heap.size ≤ (wr.alloc (.cells #[.int .i64 m.id, .int .i64 m.till, .bool m.taken] 74)).heap.size by have := HB.out.size; simp; omega)
        have hap := Lib.hid (hown.out.alloc (.cells #[.int .i64 m.id, .int .i64 m.till, .bool m.taken] 74))
        have hnew := Lib.hid (fun (j : Nat) (u : Value) (hu : (#[Value.int .i64 m.id, .int .i64 m.till, .bool m.taken] : Array Value).toList[j]? = some u) => Tide.new_cells wr #[.int .i64 m.id, .int .i64 m.till, .bool m.taken] 74 j u hu)
        cases hid : (m.id == id)
        · have hst : Tide.stays id m = true := by unfold Tide.stays; simp [hid]
          have hE : Tide.ackE id (L.take (k + 1)) = Tide.ackE id (L.take k) := by rw [HS.out]; unfold Tide.ackStep; rw [hid]; rfl
          have HST := Lib.hid hst; have HEE := Lib.hid hE
          clear hst hE
          go_wp2_with (at_builtin; refine wpList_append_own _ (by rfl) (.tmp 41) (.tmp 49) 48 (by rfl) w1.heap.size 74 i0 (.agg #[.int .i64 0, .int .i64 0, .bool false]) 3 24 Try.underlying48 hi hz0 hz1 hz2 rfl (by decide) _ _ _ rfl hap.out ⟨wr.heap.size, 0, none⟩ 1 1 [.int .i64 m.id, .int .i64 m.till, .bool m.taken] rfl rfl hnew.out (by simp [Value.oneCell']) hm3.out hm4.out hm5.out ?_)
          intro v' w2 hown2 hg2 _
          have hb2 := Lib.hid (app_left HB.out hown.out hg2)
          have ho2 := Lib.hid hown2
          clear hown2 hg2
          go_wp2_with fail
          go_roundw
          case rel => exact ⟨k + 1, by omega, by go_num, by rw [HEE.out], by rw [HFs.out, HST.out]; simpa [Tide.Msg.enc] using ho2, hb2.out⟩
          case measure => simp [intOf]; omega
        · cases ht : m.taken
          · rw [ht] at d2 hap hnew hm5
            have hst : Tide.stays id m = true := by unfold Tide.stays; simp [ht]
            have hE : Tide.ackE id (L.take (k + 1)) = 7 := by rw [HS.out]; unfold Tide.ackStep; rw [hid, ht]; rfl
            have HST := Lib.hid hst; have HEE := Lib.hid hE; have HT := Lib.hid ht
            clear hst hE ht
            go_wp2_with (at_builtin; refine wpList_append_own _ (by rfl) (.tmp 41) (.tmp 49) 48 (by rfl) w1.heap.size 74 i0 (.agg #[.int .i64 0, .int .i64 0, .bool false]) 3 24 Try.underlying48 hi hz0 hz1 hz2 rfl (by decide) _ _ _ rfl hap.out ⟨wr.heap.size, 0, none⟩ 1 1 [.int .i64 m.id, .int .i64 m.till, .bool false] rfl rfl hnew.out (by simp [Value.oneCell']) hm3.out hm4.out hm5.out ?_)
            intro v' w2 hown2 hg2 _
            have hb2 := Lib.hid (app_left HB.out hown.out hg2)
            have ho2 := Lib.hid hown2
            clear hown2 hg2
            go_wp2_with fail
            go_roundw
            case rel => exact ⟨k + 1, by omega, by go_num, by rw [HEE.out], by rw [HFs.out, HST.out]; simpa [Tide.Msg.enc, HT.out] using ho2, hb2.out⟩
            case measure => simp [intOf]; omega
          · rw [ht] at d2
            have hst : Tide.stays id m = false := by unfold Tide.stays; simp [ht, hid]
            have hE : Tide.ackE id (L.take (k + 1)) = 0 := by rw [HS.out]; unfold Tide.ackStep; rw [hid, ht]; rfl
            have HST := Lib.hid hst; have HEE := Lib.hid hE
            clear hst hE ht hap hnew
            go_wp2_with fail
            go_roundw
            case rel => exact ⟨k + 1, by omega, by go_num, by rw [HEE.out], by rw [HFs.out, HST.out]; simpa using hown, HB.out⟩
            case measure => simp [intOf]; omega
      · have hke : k = L.length := by omega
        subst hke
        rw [List.take_length] at hown ⊢
        have hw : w.heap.size ≤ w1.heap.size := C1.out.size
        obtain ⟨A7, cap7, rfl⟩ := own_slice hown.out
        have hA : Tide.At wr g 69 #[.slice A L.length cap, .int .i64 last] := H1.out.head.below hb hgl
        have f0 := hA.soft 0
        have HF := Lib.hid (show (∃ v', QAt 69 (Tide.Plus S w (wr.setCell ⟨g, 0, none⟩ _)) (wr.setCell ⟨g, 0, none⟩ _) g v' (L.filter (Tide.stays id)) last) ∧ Tide.Chg S w (wr.setCell ⟨g, 0, none⟩ _) from ack_end H1.out C1.out (by decide) hown.out hb (List.length_filter_le _ _))
        clear hA hown hb
        go_wp2_with fail
        go_ret
        exact ⟨(by rw [HE.out.1] <;> rfl), by rw [HE.out.2]; exact HF.out.1, HF.out.2⟩

set_option maxRecDepth 100000 in
set_option maxHeartbeats 3200000 in
theorem linAll (S : Nat → Prop) (g : Nat) (v : Value) (l : List Tide.Msg) (last now : Int) (w : World) (h : QAt 69 S w g v l last) :
    Calls Try.prog 36 #[.pointer (some ⟨g, 0, none⟩), .int .i64 now] w (AllPost 69 S w g v l last now) := by
  have HH := Lib.hid h
  clear h
  go_enter Try.func36, Try.ntmps36
  go_wp2_with fail
  refine (linAt S g v l last now _ HH.out).mono ?_
  rintro e w1 ⟨rfl, h1, c1⟩
  cases hn : Tide.nowOk now
  · have HF := Lib.hid (show AllPost 69 S w g v l last now (.returned (.tuple #[.slice none 0 0, .int .i64 1])) w1 from ⟨⟨.slice none 0 0, by simp [Tide.nowErr, hn], by simp only [Tide.allLst, hn, Bool.false_eq_true, if_false]; exact Tide.OwnRow.nil _ _ _ _⟩, h1, c1⟩)
    clear h1 c1 hn
    go_wp2_with fail
    go_ret2
    exact HF.out
  · have hl : Tide.nowLst l now = Tide.allLst l now := by simp [Tide.nowLst, Tide.allLst, hn]
    have HN := Lib.hid hn
    have hcell : w1.cell? ⟨g, 0, none⟩ = some v := h1.head.here rfl
    have H1 := Lib.hid h1; have C1 := Lib.hid c1; have HL := Lib.hid hl
    have hf : ∀ (v' : Value) (w2 : World), w2.ownsRow w1.heap.size 74 3 v' (Tide.nowLst l now).length ((Tide.nowLst l now).flatMap Tide.Msg.enc) → Below w1.heap.size w1 w2 → AllPost 69 S w g v l last now (.returned (.tuple #[v', .int .i64 0])) w2 := fun v' w2 ho hb =>
      ⟨⟨v', by simp [Tide.nowErr, HN.out], by rw [← HL.out]; exact (Tide.OwnRow.of_owns (S := fun b => w1.heap.size ≤ b) ho (Tide.own_ge ho)).mono (fun b _ hb => Nat.le_trans C1.out.size hb)⟩, H1.out.chg (Tide.Chg.of_below (S := fun _ => False) hb (Nat.le_refl _)) (fun _ _ h => h), C1.out.step_below hb C1.out.size⟩
    have HFn := Lib.hid hf
    rcases h1.row.2 with ⟨rfl, h0⟩ | ⟨b, cap, rfl, hS, hcap, hmax, hrow⟩
    · have HF := Lib.hid (HFn.out (.slice none 0 0) w1 ⟨H1.out.row.1, .inl ⟨rfl, h0⟩⟩ (Below.refl _ _))
      clear h1 c1 hn hl hf h0
      go_wp2_with fail
      go_ret2
      exact HF.out
    · have HR := Lib.hid hrow; have HX := Lib.hid H1.out.row.1
      have hs := H1.out.small
      have hm3 := Lib.hid (show 0 + (Tide.nowLst l now).length ≤ maxLen by simp only [maxLen]; omega)
      have hm4 := Lib.hid (show (0 + (Tide.nowLst l now).length) * 24 ≤ 140737488355328 by omega)
      obtain ⟨i0, hi, hz0, hz1, hz2⟩ := info_parts info_msg
      clear h1 c1 hn hl hf hrow hcap hmax hs
      go_wp2_with (at_builtin; refine wpList_append_own _ (by rfl) (.const (.slice none 0 0)) (.tmp 13) 48 (by rfl) w1.heap.size 74 i0 (.agg #[.int .i64 0, .int .i64 0, .bool false]) 3 24 Try.underlying48 hi hz0 hz1 hz2 rfl (by decide) _ _ _ rfl (World.ownsRow_nil _ _ _ _) ⟨b, 0, none⟩ _ cap _ rfl HX.out (fun j u hu => by rw [Addr.add_lit, Nat.zero_add]; exact HR.out.cell hu) flat_one hm3.out hm4.out (Nat.le_refl _) ?_)
      intro v' w2 hown2 hg2 _
      have HF := Lib.hid (HFn.out v' w2 (by simpa using hown2) ((Below.refl _ _).grown hg2 (Nat.le_refl _) (fun k hk => by simp [Value.ownBlock] at hk)))
      clear hown2 hg2
      go_wp2_with fail
      go_ret2
      exact HF.out

set_option maxRecDepth 100000 in
set_option maxHeartbeats 3200000 in
theorem linDepth (S : Nat → Prop) (g : Nat) (v : Value) (l : List Tide.Msg) (last now : Int) (w : World) (h : QAt 69 S w g v l last) :
    Calls Try.prog 38 #[.pointer (some ⟨g, 0, none⟩), .int .i64 now] w fun e w' => e = .returned (.tuple #[.int .i64 (Tide.depthNum l now), .int .i64 (Tide.nowErr now)]) ∧ QAt 69 S w' g v (Tide.nowLst l now) last ∧ Tide.Chg S w w' := by
  have HH := Lib.hid h
  clear h
  have hfin := Lib.hid (show Tide.depthNum l now = (((Tide.allLst l now).countP Tide.free : Nat) : Int) by unfold Tide.depthNum Tide.allLst; cases Tide.nowOk now <;> simp)
  have hlen : (Tide.allLst l now).length ≤ 200 := by
    have := HH.out.small
    unfold Tide.allLst Tide.backAll; split <;> simp <;> omega
  go_enter Try.func38, Try.ntmps38
  go_wp2_with fail
  refine (linAll S g v l last now _ HH.out).mono ?_
  rintro e w1 ⟨⟨v1, rfl, ho⟩, h1, c1⟩
  generalize Tide.allLst l now = L at ho hfin hlen
  obtain ⟨A, cap, rfl, _, _, hA⟩ := ho.slice
  have HA := Lib.hid hA; have H1 := Lib.hid h1; have C1 := Lib.hid c1
  clear hA h1 c1 ho
  go_wp2_with fail
  go_loop [8, 9] (fun n i => ∃ k : Nat, k ≤ L.length ∧ i = .int .i64 k ∧ n = .int .i64 (((L.take k).countP Tide.free : Nat) : Int)) (fun _ i => L.length - (intOf i).toNat)
  case atStart => exact ⟨0, by omega, rfl, by simp⟩
  case round =>
    obtain ⟨k, hk, rfl, rfl⟩ := hrel
    by_cases hlt : k < L.length
    · obtain ⟨m, hm⟩ := Tide.get_some L hlt
      obtain ⟨b, rfl, _, hr⟩ := HA.out (by omega)
      have c2 := hr.cell (Tide.flat_get (j := 2) Tide.Msg.enc_length hm rfl)
      have i0 : (0 : Int) ≤ (k : Int) := by omega
      have i1 : (k : Int) < (L.length : Int) := by omega
      have HC := Lib.hid (Tide.count_snoc (p := Tide.free) hm)
      have hle : (L.take k).countP Tide.free ≤ 200 := Nat.le_trans List.countP_le_length (by rw [List.length_take]; omega)
      generalize (L.take k).countP Tide.free = N at HC hle ⊢
      have hle' : (N : Int) ≤ 200 := by omega
      clear hm hr hle
      cases ht : m.taken
      · rw [ht] at c2
        have HT := Lib.hid (show Tide.free m = true by unfold Tide.free; rw [ht]; rfl)
        clear ht
        go_wp2_with fail
        go_round
        case rel => exact ⟨k + 1, by omega, by go_num, by rw [HC.out, HT.out]; go_num⟩
        case measure => simp [intOf]; omega
      · rw [ht] at c2
        have HT := Lib.hid (show Tide.free m = false by unfold Tide.free; rw [ht]; rfl)
        clear ht
        go_wp2_with fail
        go_round
        case rel => exact ⟨k + 1, by omega, by go_num, by rw [HC.out, HT.out]; go_num⟩
        case measure => simp [intOf]; omega
    · have hke : k = L.length := by omega
      subst hke
      rw [List.take_length]
      go_wp2_with fail
      go_ret2
      exact ⟨(by rw [hfin.out] <;> rfl), H1.out, C1.out⟩
end Go.Proofs.Ytgkbdoecpbepbaa
