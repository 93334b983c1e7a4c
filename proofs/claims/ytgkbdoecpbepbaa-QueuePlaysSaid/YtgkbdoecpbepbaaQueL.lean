/- The walk of QueuePlays. -/
import Derived.Test.YtgkbdoecpbepbaaQueS
import Derived.Test.YtgkbdoecpbepbaaOpenRows
import Derived.Deep.DeepCutAuto
import Derived.Deep.CutBlock
import Derived.Deep.LoopGhost
import Derived.Deep.RegionHeld3
namespace Go.Proofs.Ytgkbdoecpbepbaa
open Go.RowKit
set_option linter.unusedVariables false
set_option maxRecDepth 100000 in
set_option maxHeartbeats 1600000 in
theorem que_equal (u v : Value) (l : List Tide.Msg) (w : World) (hu : Tide.ListIn w 3 Tide.Msg.enc u l) (hv : Tide.ListIn w 3 Tide.Msg.enc v l) (hl : l.length ≤ 1000000) :
    Calls Try.prog 39 #[u, v] w fun e w' => e = .returned (.bool true) ∧ Tide.Chg (fun _ => False) w w' := by
  obtain ⟨A, c, rfl, hA⟩ := hu
  obtain ⟨A', c', rfl, hA'⟩ := hv
  have HA := Lib.hid hA; have HA' := Lib.hid hA'
  clear hA hA'
  go_enter Try.func39, Try.ntmps39
  go_wp2_with fail
  go_loopw [13] (fun i wr => ∃ k : Nat, k ≤ l.length ∧ i = .int .i64 k ∧ Tide.Chg (fun _ => False) w wr) (fun i _ => l.length - (intOf i).toNat)
  case atStart => exact ⟨0, by omega, rfl, Tide.Chg.refl _ _⟩
  case round =>
    obtain ⟨k, hk, rfl, hch⟩ := hrel
    by_cases hlt : k < l.length
    · obtain ⟨b, off, e1, hb, hc⟩ := HA.out (by omega)
      obtain ⟨b', off', e1', hb', hc'⟩ := HA'.out (by omega)
      subst e1 e1'
      obtain ⟨m, hm⟩ := Tide.get_some l hlt
      have cl : ∀ (j : Nat) (u : Value), m.enc[j]? = some u → wr.cell? ⟨b, off + k * 3 + j, none⟩ = some u := fun j u hu => (World.cell?_of_block (w := w) (a := ⟨b, off + k * 3 + j, none⟩) (hch.block b hb (fun h => h))).trans (hc k m j u hm hu)
      have cl' : ∀ (j : Nat) (u : Value), m.enc[j]? = some u → wr.cell? ⟨b', off' + k * 3 + j, none⟩ = some u := fun j u hu => (World.cell?_of_block (w := w) (a := ⟨b', off' + k * 3 + j, none⟩) (hch.block b' hb' (fun h => h))).trans (hc' k m j u hm hu)
      have c0 : wr.cell? ⟨b, off + k * 3, none⟩ = _ := cl 0 _ rfl
      have d0 : wr.cell? ⟨b', off' + k * 3, none⟩ = _ := cl' 0 _ rfl
      have c1 := cl 1 _ rfl; have c2 := cl 2 _ rfl; have d1 := cl' 1 _ rfl; have d2 := cl' 2 _ rfl
      have i0 : (0 : Int) ≤ (k : Int) := by omega
      have i1 : (k : Int) < (l.length : Int) := by omega
      clear hc hc' hm HA HA' cl cl'
      go_wp2_with fail
      go_quiet (fail)
      go_wp2_with fail
      go_roundw
      case rel => exact ⟨k + 1, by omega, by go_num, hch.drewN _⟩
      case measure => simp [intOf]; omega
    · go_wp2_with fail
      go_ret
      exact ⟨rfl, hch⟩

/-- both queues hold the same -/
structure Both2 (w0 w : World) (S1 S2 : Nat → Prop) (g1 g2 : Nat) (v1 v2 : Value) (l : List Tide.Msg) (last : Int) (j : Nat) : Prop where
  q : QAt 85 S1 w g1 v1 l last
  b : QAt 69 S2 w g2 v2 l last
  two : Tide.Two w0 w S1 S2
  up : Tide.Up l
  ids : ∀ m ∈ l, m.id ≤ last
  last0 : 0 ≤ last
  last1 : last ≤ 200 * j
def Pair2 (w0 w : World) (g1 g2 : Nat) (j : Nat) : Prop := ∃ S1 S2 v1 v2 l last, Both2 w0 w S1 S2 g1 g2 v1 v2 l last j
theorem put_up {l : List Tide.Msg} {last n : Int} (h : Tide.Up l) (hi : ∀ m ∈ l, m.id ≤ last) (h0 : 0 ≤ last) : Tide.Up (Tide.putLst l last n) ∧ (∀ m ∈ Tide.putLst l last n, m.id ≤ Tide.putLast l last n) ∧ 0 ≤ Tide.putLast l last n ∧ Tide.putLast l last n ≤ last + 200 := by
  unfold Tide.putLst Tide.putLast
  split
  · exact ⟨h, hi, h0, by omega⟩
  · split
    · exact ⟨h, hi, h0, by omega⟩
    · refine ⟨?_, ?_, by omega, by omega⟩
      · unfold Tide.Up
        rw [List.pairwise_append]
        refine ⟨h, ?_, ?_⟩
        · unfold Tide.newMsgs
          rw [List.pairwise_map]
          exact List.pairwise_lt_range.imp (fun {a b} hab => by simp only; omega)
        · intro a ha b hb
          have h1 := hi a ha
          unfold Tide.newMsgs at hb
          obtain ⟨i, _, rfl⟩ := List.mem_map.1 hb
          simp only; omega
      · intro m hm
        rcases List.mem_append.1 hm with hm | hm
        · have := hi m hm; omega
        · unfold Tide.newMsgs at hm
          obtain ⟨i, hr, rfl⟩ := List.mem_map.1 hm
          rw [List.mem_range] at hr
          simp only; omega
theorem up_of_ids {l l' : List Tide.Msg} (h : Tide.Up l) (e : l'.map (·.id) = l.map (·.id)) : Tide.Up l' := by
  unfold Tide.Up at *
  have h1 : (l.map (·.id)).Pairwise (· < ·) := by rw [List.pairwise_map]; exact h
  rw [← e, List.pairwise_map] at h1
  exact h1
theorem ids_of {l l' : List Tide.Msg} {last : Int} (h : ∀ m ∈ l, m.id ≤ last) (e : ∀ m ∈ l', ∃ m0 ∈ l, m.id = m0.id) : ∀ m ∈ l', m.id ≤ last := fun m hm => by
  obtain ⟨m0, h0, e0⟩ := e m hm
  rw [e0]; exact h m0 h0
theorem backAll_ids (l : List Tide.Msg) (now : Int) : (Tide.backAll now l).map (·.id) = l.map (·.id) := by
  unfold Tide.backAll; rw [List.map_map]; exact List.map_congr_left fun m _ => Tide.back_id now m
theorem nowLst_ids (l : List Tide.Msg) (now : Int) : (Tide.nowLst l now).map (·.id) = l.map (·.id) := by
  unfold Tide.nowLst; split
  · exact backAll_ids l now
  · rfl
theorem leaseLst_ids (l : List Tide.Msg) (now ticks : Int) : (Tide.leaseLst l now ticks).map (·.id) = l.map (·.id) := by
  unfold Tide.leaseLst; split
  · split
    · exact backAll_ids l now
    · rw [← backAll_ids l now]
      apply List.ext_getElem?
      intro j
      rw [List.getElem?_map, List.getElem?_map, List.getElem?_modify]
      cases (Tide.backAll now l)[j]? with
      | none => rfl
      | some m => simp; split <;> rfl
  · rfl
theorem mem_ids {l l' : List Tide.Msg} (e : l'.map (·.id) = l.map (·.id)) : ∀ m ∈ l', ∃ m0 ∈ l, m.id = m0.id := fun m hm => by
  have : m.id ∈ l'.map (·.id) := List.mem_map_of_mem hm
  rw [e] at this
  obtain ⟨m0, h0, e0⟩ := List.mem_map.1 this
  exact ⟨m0, h0, e0.symm⟩
theorem ack_sub (l : List Tide.Msg) (now id : Int) : (Tide.ackLst l now id).Sublist (Tide.backAll now l) ∨ Tide.ackLst l now id = l := by
  unfold Tide.ackLst; split
  · left
    split
    · exact List.Sublist.refl _
    · split
      · split
        · exact List.eraseIdx_sublist _ _
        · exact List.Sublist.refl _
      · exact List.Sublist.refl _
  · exact .inr rfl
theorem ack_up {l : List Tide.Msg} (h : Tide.Up l) (now id : Int) : Tide.Up (Tide.ackLst l now id) := by
  rcases ack_sub l now id with hs | hs
  · exact (h.backAll now).sublist hs
  · rw [hs]; exact h
theorem ack_mem (l : List Tide.Msg) (now id : Int) : ∀ m ∈ Tide.ackLst l now id, ∃ m0 ∈ l, m.id = m0.id := by
  rcases ack_sub l now id with hs | hs
  · exact fun m hm => mem_ids (backAll_ids l now) m (hs.subset hm)
  · rw [hs]; exact fun m hm => ⟨m, hm, rfl⟩

theorem Both2.next {w0 w w3 : World} {S1 S2 S1' S2' : Nat → Prop} {g1 g2 : Nat} {v1 v2 v1' v2' : Value} {l l' : List Tide.Msg} {last last' : Int} {j : Nat} (h : Both2 w0 w S1 S2 g1 g2 v1 v2 l last j)
    (q : QAt 85 S1' w3 g1 v1' l' last') (b : QAt 69 S2' w3 g2 v2' l' last') (two : Tide.Two w0 w3 S1' S2') (up : Tide.Up l') (ids : ∀ m ∈ l', m.id ≤ last') (h0 : 0 ≤ last') (h1 : last' ≤ last + 200) : Pair2 w0 w3 g1 g2 (j + 1) :=
  ⟨_, _, _, _, _, _, q, b, two, up, ids, h0, by have := h.last1; omega⟩
theorem Both2.alloc {w0 w : World} {S1 S2 : Nat → Prop} {g1 g2 : Nat} {v1 v2 : Value} {l : List Tide.Msg} {last : Int} {j : Nat} (h : Both2 w0 w S1 S2 g1 g2 v1 v2 l last j) (o : Obj) : Both2 w0 (w.alloc o) S1 S2 g1 g2 v1 v2 l last j :=
  ⟨h.q.alloc o, h.b.alloc o, h.two.none ((Tide.Chg.refl _ w).alloc o), h.up, h.ids, h.last0, h.last1⟩
theorem Both2.drew {w0 w : World} {S1 S2 : Nat → Prop} {g1 g2 : Nat} {v1 v2 : Value} {l : List Tide.Msg} {last : Int} {j : Nat} (h : Both2 w0 w S1 S2 g1 g2 v1 v2 l last j) : Both2 w0 w.drew S1 S2 g1 g2 v1 v2 l last j :=
  ⟨h.q.drew, h.b.drew, h.two.none (Tide.Chg.refl _ w).drew, h.up, h.ids, h.last0, h.last1⟩

theorem loan_row {w wr : World} {A : Option Addr} {l : List (List Int)} {k : Nat} (hA : RowsAt w 3 A l) (hr : ∀ row ∈ l, row.length = 3 ∧ ∀ x ∈ row, -9223372036854775808 ≤ x ∧ x ≤ 9223372036854775807) (hb : Below w.heap.size w wr) (hk : k < l.length) :
    ∃ b off x y z, A = some ⟨b, off, none⟩ ∧ wr.cell? ⟨b, off + k * 3, none⟩ = some (.int .i64 x) ∧ wr.cell? ⟨b, off + k * 3 + 1, none⟩ = some (.int .i64 y) ∧ wr.cell? ⟨b, off + k * 3 + 2, none⟩ = some (.int .i64 z) := by
  obtain ⟨b, off, e, hlt, hc⟩ := hA (by omega)
  have hrow : l[k]? = some l[k] := List.getElem?_eq_getElem hk
  have hlen := (hr _ (List.getElem_mem hk)).1
  obtain ⟨x, y, z, hxyz⟩ : ∃ x y z, l[k] = [x, y, z] := by
    match l[k], hlen with
    | [x, y, z], _ => exact ⟨x, y, z, rfl⟩
  rw [hxyz] at hrow
  exact ⟨b, off, x, y, z, e, (hb.cell (p := ⟨b, off + k * 3, none⟩) hlt).trans (hc k _ 0 x hrow rfl), (hb.cell (p := ⟨b, off + k * 3 + 1, none⟩) hlt).trans (hc k _ 1 y hrow rfl), (hb.cell (p := ⟨b, off + k * 3 + 2, none⟩) hlt).trans (hc k _ 2 z hrow rfl)⟩

theorem pair_made {w w1 : World} {g : Nat} {v : Value} (h : QAt 85 (Tide.Plus (fun _ => False) w w1) w1 g v [] 0) (hb : Below w.heap.size w w1) :
    Pair2 w (w1.alloc (.cells #[.slice none 0 0, .int .i64 0] 69)) g w1.heap.size 0 := by
  obtain ⟨g2, v2, e, h2, hb2⟩ := qnew_made 69 w1
  cases e
  refine ⟨_, _, _, _, _, _, h.alloc _, h2, ⟨?_, ?_, ?_, hb.trans (hb2.mono hb.size)⟩, List.Pairwise.nil, by simp, by omega, by omega⟩
  · intro b h3 h4
    rcases h3 with h3 | h3
    · exact h3
    · rcases h4 with h4 | h4
      · exact h4
      · omega
  · intro b h3
    rcases h3 with h3 | h3
    · exact h3.elim
    · simp; omega
  · intro b h3
    have := hb.size
    rcases h3 with h3 | h3
    · exact h3.elim
    · omega

set_option maxRecDepth 100000 in
set_option maxHeartbeats 12800000 in
theorem queuePlays_walk (v : Value) (l : List (List Int)) (w : World) (hl : ArgRows w 3 v l) :
    Calls Try.prog 11 #[v] w fun e w' => e = .returned (.bool true) ∧ Below w.heap.size w w' := by
  obtain ⟨A, cap, rfl, hcap, hmax, hrows, hA⟩ := hl
  have HA := Lib.hid hA
  have HR := Lib.hid hrows
  clear hA hrows hcap hmax
  by_cases hlen : 100 < l.length
  · have hbig : (100 : Int) < (l.length : Int) := by omega
    go_enter Try.func11, Try.ntmps11
    go_wp2_with fail
    go_ret
    exact ⟨rfl, Below.refl _ _⟩
  · have hsm : (l.length : Int) ≤ 100 := by omega
    clear hlen
    go_enter Try.func11, Try.ntmps11
    go_wp2_with fail
    refine (queNew _).mono ?_
    rintro e w1 ⟨g1, v1, rfl, hq, hb⟩
    have hP := Lib.hid (pair_made hq hb)
    clear hq hb
    go_wp2_with fail
    generalize w1.heap.size = g2 at hP ⊢
    go_loopg [32] l.length (fun k i wr => ∃ j : Nat, i = .int .i64 j ∧ j ≤ l.length ∧ k = l.length - j ∧ Pair2 w wr g1 g2 j)
    case atStart => exact ⟨0, rfl, by omega, by omega, hP.out⟩
    case round =>
      clear hP
      obtain ⟨j, rfl, hj, hk, S1, S2, v1, v2, L, last, hB⟩ := hrel
      have HK := Lib.hid hk
      by_cases hlt : j < l.length
      · obtain ⟨b, off, x, y, z, rfl, hx, hy, hz⟩ := loan_row HA.out HR.out hB.two.below hlt
        have hj0 : (0 : Int) ≤ (j : Int) := by omega
        have hj1 : (j : Int) < (l.length : Int) := by omega
        have l0 := hB.last0
        have l1 : last ≤ 4000000000000000000 := by have := hB.last1; omega
        have HB := Lib.hid (hB.alloc (.cells #[.int .i64 x, .int .i64 y, .int .i64 z] 71))
        have HX := Lib.hid (Tide.At.made wr 71 #[.int .i64 x, .int .i64 y, .int .i64 z])
        have HL1 := Lib.hid (fun (b : Nat) (hb : S1 b) => (hB.two.one b hb).2)
        have HL2 := Lib.hid (fun (b : Nat) (hb : S2 b) => (hB.two.two b hb).2)
        clear hB hk
        by_cases x0 : x = 0
        · subst x0
          go_wp2_with fail
          refine (quePut S1 g1 v1 L last z _ HB.out.q l0 l1).mono ?_
          rintro e w2 ⟨rfl, ⟨v1', q2⟩, c2⟩
          have X2 := HX.out.stays c2 HL1.out
          have z2 := X2.here (i := 2) rfl
          have b2 := HB.out.b.chg c2 (fun b hb h => HB.out.two.dis b h hb)
          have t2 := HB.out.two.left c2
          have Q2 := Lib.hid q2; have B2 := Lib.hid b2; have T2 := Lib.hid t2
          clear hx hy hz q2 c2 X2 b2 t2
          go_wp2_with fail
          refine (linPut S2 g2 v2 L last z _ B2.out l0 l1).mono ?_
          rintro e w3 ⟨rfl, ⟨v2', b3⟩, c3⟩
          have hu := put_up (n := z) HB.out.up HB.out.ids l0
          have HN := Lib.hid (HB.out.next (Q2.out.chg c3 (fun b h1 h2 => T2.out.dis b h1 h2)) b3 (T2.out.right c3) hu.1 hu.2.1 hu.2.2.1 hu.2.2.2)
          clear hu b3 c3 z2
          go_wp2_with fail
          go_roundg (l.length - (j + 1))
          case measure => have := HK.out; omega
          case rel => exact ⟨j + 1, by go_num, by omega, rfl, HN.out⟩
        by_cases x1 : x = 1
        · subst x1
          clear x0
          go_wp2_with fail
          refine (queLease S1 g1 v1 L last y z _ HB.out.q).mono ?_
          rintro e w2 ⟨rfl, q2, c2⟩
          have X2 := HX.out.stays c2 HL1.out
          have y2 := X2.here (i := 1) rfl
          have z2 := X2.here (i := 2) rfl
          have b2 := HB.out.b.chg c2 (fun b hb h => HB.out.two.dis b h hb)
          have t2 := HB.out.two.left c2
          have Q2 := Lib.hid (q2.up (w0 := wr.alloc (.cells #[.int .i64 1, .int .i64 y, .int .i64 z] 71))); have B2 := Lib.hid b2; have T2 := Lib.hid t2
          clear hx hy hz q2 c2 X2 b2 t2
          go_wp2_with fail
          refine (linLease S2 g2 v2 L last y z _ B2.out).mono ?_
          rintro e w3 ⟨rfl, b3, c3⟩
          have HN := Lib.hid (HB.out.next (Q2.out.chg c3 (fun b h1 h2 => T2.out.dis b h1 h2)) (b3.up (w0 := w2)) (T2.out.right c3) (up_of_ids HB.out.up (leaseLst_ids L y z)) (ids_of HB.out.ids (mem_ids (leaseLst_ids L y z))) l0 (by omega))
          clear b3 c3 y2 z2
          go_wp2_with fail
          go_roundg (l.length - (j + 1))
          case measure => have := HK.out; omega
          case rel => exact ⟨j + 1, by go_num, by omega, rfl, HN.out⟩
        by_cases x2 : x = 2
        · subst x2
          clear x0 x1
          have HB' := Lib.hid HB.out.drew
          have y1 := HX.out.drew.here (i := 1) rfl
          have z1 := HX.out.drew.here (i := 2) rfl
          clear HB
          go_wp2_with fail
          go_region_held3 (fun w' => w'.cell? ⟨wr.heap.size, 1, none⟩ = some (.int .i64 y) ∧ w'.cell? ⟨wr.heap.size, 2, none⟩ = some (.int .i64 z)) (first | exact ⟨y3, z3⟩ | exact ⟨y2, z2⟩ | go_keep) (first | (go_at_call 26; refine (queAck S1 g1 v1 L last y z _ HB'.out.q).mono ?_; rintro e w2 ⟨rfl, ⟨v1', q2⟩, c2⟩; have X2 := HX.out.drew.stays c2 HL1.out; have y2 := X2.here (i := 1) rfl; have z2 := X2.here (i := 2) rfl) | (go_at_call 35; refine (linAck S2 g2 v2 L last y z _ (HB'.out.b.chg c2 (fun b hb h => HB'.out.two.dis b h hb)) HB'.out.up).mono ?_; rintro e w3 ⟨rfl, ⟨v2', b3⟩, c3⟩; have X3 := X2.stays c3 HL2.out; have y3 := X3.here (i := 1) rfl; have z3 := X3.here (i := 2) rfl))
          all_goals
            have HN := Lib.hid (HB'.out.next ((q2.up (w0 := _)).chg c3 (fun b h1 h2 => (HB'.out.two.left c2).dis b h1 h2)) b3 ((HB'.out.two.left c2).right c3) (ack_up HB'.out.up y z) (ids_of HB'.out.ids (ack_mem L y z)) l0 (by omega))
            clear q2 c2 b3 c3 X2 X3 y2 z2 y3 z3 y1 z1
            go_wp2_with fail
            go_roundg (l.length - (j + 1))
            case measure => have := HK.out; omega
            case rel => exact ⟨j + 1, by go_num, by omega, rfl, HN.out⟩
        by_cases x3 : x = 3
        · subst x3
          clear x0 x1 x2
          go_wp2_with fail
          refine (queAll S1 g1 v1 L last y _ HB.out.q).mono ?_
          rintro e w2 ⟨⟨u2, rfl, o2⟩, q2, c2⟩
          have X2 := HX.out.stays c2 HL1.out
          have y2 := X2.here (i := 1) rfl
          have b2 := HB.out.b.chg c2 (fun b hb h => HB.out.two.dis b h hb)
          have t2 := (HB.out.two.left c2).sub1 (S := S1) (fun b hb => .inl hb)
          have O2 := Lib.hid o2; have Q2 := Lib.hid q2; have B2 := Lib.hid b2; have T2 := Lib.hid t2; have XX2 := Lib.hid X2
          clear hx hy hz o2 q2 c2 X2 b2 t2
          go_wp2_with fail
          refine (linAll S2 g2 v2 L last y _ B2.out).mono ?_
          rintro e w3 ⟨⟨u3, rfl, o3⟩, b3, c3⟩
          have X3 := XX2.out.stays c3 HL2.out
          have y3 := X3.here (i := 1) rfl
          have q3 := Q2.out.chg c3 (fun b h1 h2 => T2.out.dis b h1 h2)
          have t3 := T2.out.right3 c3
          have o2 := O2.out.chg c3 (fun b h1 h2 => by have := HL2.out b h2; simp at h1; omega)
          have O2' := Lib.hid o2; have O3 := Lib.hid o3; have Q3 := Lib.hid q3; have B3 := Lib.hid b3; have T3 := Lib.hid t3; have XX3 := Lib.hid X3
          have hsz := T2.out
          clear y2 o2 o3 b3 c3 X3 q3 t3
          go_wp2_with fail
          refine (queDepth S1 g1 v1 _ last y _ Q3.out).mono ?_
          rintro e w4 ⟨rfl, q4, c4⟩
          have X4 := XX3.out.stays c4 HL1.out
          have y4 := X4.here (i := 1) rfl
          have b4 := B3.out.chg c4 (fun b hb h => T3.out.dis b h hb)
          have t4 := (T3.out.left c4).sub1 (S := S1) (fun b hb => .inl hb)
          have o2 := O2'.out.chg c4 (fun b h1 h2 => by have := HL1.out b h2; simp at h1; omega)
          have o3 := O3.out.chg c4 (fun b h1 h2 => by have := (hsz.one b h2).2; omega)
          have O24 := Lib.hid o2; have O34 := Lib.hid o3; have Q4 := Lib.hid q4; have B4 := Lib.hid b4; have T4 := Lib.hid t4
          clear y3 o2 o3 q4 c4 b4 t4 X4
          go_wp2_with fail
          refine (linDepth S2 g2 v2 _ last y _ B4.out).mono ?_
          rintro e w5 ⟨rfl, b5, c5⟩
          have q5 := Q4.out.chg c5 (fun b h1 h2 => T4.out.dis b h1 h2)
          have t5 := T4.out.right3 c5
          have o2 := O24.out.chg c5 (fun b h1 h2 => by have := HL2.out b h2; simp at h1; omega)
          have o3 := O34.out.chg c5 (fun b h1 h2 => by have := (hsz.two b h2).2; omega)
          have O25 := Lib.hid o2; have O35 := Lib.hid o3; have Q5 := Lib.hid q5; have B5 := Lib.hid b5; have T5 := Lib.hid t5
          clear y4 o2 o3 q5 b5 c5 t5 hsz
          go_wp2_with fail
          refine (que_equal _ _ _ _ (O25.out.list Tide.Msg.enc_length) (O35.out.list Tide.Msg.enc_length) (by have := HB.out.q.small; unfold Tide.allLst Tide.backAll; split <;> simp <;> omega)).mono ?_
          rintro e w6 ⟨rfl, c6⟩
          have hids : ((Tide.nowLst (Tide.nowLst L y) y).map (·.id)) = L.map (·.id) := (nowLst_ids _ _).trans (nowLst_ids _ _)
          have HN := Lib.hid (HB.out.next ((Q5.out.chg c6 (fun _ _ h => h))) ((B5.out.chg c6 (fun _ _ h => h))) (T5.out.none c6) (up_of_ids HB.out.up hids) (ids_of HB.out.ids (mem_ids hids)) l0 (by omega))
          clear c6
          go_wp2_with fail
          go_roundg (l.length - (j + 1))
          case measure => have := HK.out; omega
          case rel => exact ⟨j + 1, by go_num, by omega, rfl, HN.out⟩
        · have e0 : (x == 0) = false := by simp [x0]
          have e1 : (x == 1) = false := by simp [x1]
          have e2 : (x == 2) = false := by simp [x2]
          have e3 : (x == 3) = false := by simp [x3]
          have HN := Lib.hid (HB.out.next HB.out.q HB.out.b HB.out.two HB.out.up HB.out.ids l0 (by omega))
          clear x0 x1 x2 x3
          go_wp2_with fail
          go_roundg (l.length - (j + 1))
          case measure => have := HK.out; omega
          case rel => exact ⟨j + 1, by go_num, by omega, rfl, HN.out⟩
      · have HN := Lib.hid hB.two.below
        clear hB hk
        go_wp2_with fail
        go_ret
        exact ⟨rfl, HN.out⟩
end Go.Proofs.Ytgkbdoecpbepbaa
