/- The walk of BufferLate. -/
import Derived.Test.YtgcdomoecikooaaBufK
import Derived.Deep.LoopGhost
namespace Go.Proofs.Ytgcdomoecikooaa
open Go.RowKit
set_option linter.unusedVariables false

theorem turn_row {w wr : World} {A : Option Addr} {l : List (List Int)} {k : Nat} (hA : RowsAt w 4 A l) (hr : ∀ row ∈ l, row.length = 4 ∧ ∀ x ∈ row, -9223372036854775808 ≤ x ∧ x ≤ 9223372036854775807) (hb : Below w.heap.size w wr) (hk : k < l.length) :
    ∃ b off x y z u, A = some ⟨b, off, none⟩ ∧ wr.cell? ⟨b, off + k * 4, none⟩ = some (.int .i64 x) ∧ wr.cell? ⟨b, off + k * 4 + 1, none⟩ = some (.int .i64 y) ∧ wr.cell? ⟨b, off + k * 4 + 2, none⟩ = some (.int .i64 z) ∧ wr.cell? ⟨b, off + k * 4 + 3, none⟩ = some (.int .i64 u) := by
  obtain ⟨b, off, e, hlt, hc⟩ := hA (by omega)
  have hrow : l[k]? = some l[k] := List.getElem?_eq_getElem hk
  have hlen := (hr _ (List.getElem_mem hk)).1
  obtain ⟨x, y, z, u, hxyz⟩ : ∃ x y z u, l[k] = [x, y, z, u] := by
    match l[k], hlen with
    | [x, y, z, u], _ => exact ⟨x, y, z, u, rfl⟩
  rw [hxyz] at hrow
  exact ⟨b, off, x, y, z, u, e, (hb.cell (p := ⟨b, off + k * 4, none⟩) hlt).trans (hc k _ 0 x hrow rfl), (hb.cell (p := ⟨b, off + k * 4 + 1, none⟩) hlt).trans (hc k _ 1 y hrow rfl), (hb.cell (p := ⟨b, off + k * 4 + 2, none⟩) hlt).trans (hc k _ 2 z hrow rfl), (hb.cell (p := ⟨b, off + k * 4 + 3, none⟩) hlt).trans (hc k _ 3 u hrow rfl)⟩
theorem req_row {S : Nat → Prop} {w : World} {v : Value} {l : List Tide.Req} (h : Tide.OwnRow S w 42 5 v l.length (l.flatMap Tide.Req.enc)) {k : Nat} {r : Tide.Req} (hk : l[k]? = some r) :
    ∃ b cap, v = .slice (some ⟨b, 0, none⟩) l.length cap ∧ w.cell? ⟨b, k * 5, none⟩ = some (.int .i64 r.id) ∧ w.cell? ⟨b, k * 5 + 1, none⟩ = some (.int .i64 r.source) ∧ w.cell? ⟨b, k * 5 + 2, none⟩ = some (.int .i64 r.till) ∧
      w.cell? ⟨b, k * 5 + 3, none⟩ = some (.int .i64 r.fate) ∧ w.cell? ⟨b, k * 5 + 4, none⟩ = some (.int .i64 r.pod) := by
  obtain ⟨b, cap, e, hS, h1, h2, h3⟩ := h.form (by have := Tide.get_lt hk; omega)
  exact ⟨b, cap, e, h3.cell (Tide.flat_get (j := 0) Tide.Req.enc_length hk rfl), h3.cell (Tide.flat_get (j := 1) Tide.Req.enc_length hk rfl), h3.cell (Tide.flat_get (j := 2) Tide.Req.enc_length hk rfl), h3.cell (Tide.flat_get (j := 3) Tide.Req.enc_length hk rfl), h3.cell (Tide.flat_get (j := 4) Tide.Req.enc_length hk rfl)⟩
theorem BufSolo.alloc {T : TypeId} {w0 w : World} {S : Nat → Prop} {g : Nat} {v : Value} {l : List Tide.Req} (h : BufSolo T w0 w S g v l) (o : Obj) : BufSolo T w0 (w.alloc o) S g v l :=
  ⟨h.buf.alloc o, h.own, h.below.alloc h.below.size o⟩
theorem lateIds_le (q : List Tide.Req) (now : Int) : (Tide.lateIds q now).length ≤ q.length := by
  unfold Tide.lateIds
  split
  · unfold Tide.idsF; rw [List.length_map]; exact List.length_filter_le _ _
  · simp
/-- a buffer at the first loop's head: all of it waits -/
def AskRun (T : TypeId) (w0 w : World) (g : Nat) : Prop := ∃ S v q, BufSolo T w0 w S g v q ∧ ∀ r ∈ q, r.fate = 1
set_option maxRecDepth 100000 in
set_option maxHeartbeats 6400000 in
theorem bufferLate_walk (v : Value) (l : List (List Int)) (now : Int) (hwf0 : (Lit.int .i64 now).wf = true) (w : World) (hl : ArgRows w 4 v l) :
    Calls Try.prog 4 #[v, .int .i64 now] w fun e w' => e = .returned (.bool true) ∧ Below w.heap.size w w' := by
  obtain ⟨A, cap, rfl, hcap, hmax, hrows, hA⟩ := hl
  clear hwf0
  have HA := Lib.hid hA; have HR := Lib.hid hrows
  clear hA hrows hcap hmax
  go_enter Try.func4, Try.ntmps4
  go_wp2_with fail
  refine (bufAsked _).mono ?_
  rintro e w1 ⟨rfl, hb1⟩
  have HB1 := Lib.hid hb1
  clear hb1
  by_cases hlen : 150 < l.length
  · have hbig : (150 : Int) < (l.length : Int) := by omega
    go_wp2_with fail
    go_ret
    exact ⟨rfl, HB1.out⟩
  have hsm : (l.length : Int) ≤ 150 := by omega
  clear hlen
  go_wp2_with fail
  refine (bufNew _).mono ?_
  rintro e w2 ⟨g, rfl, h2, hb2⟩
  have H2 := BufSolo.made h2 hb2
  have H0 := Lib.hid (show AskRun 74 w w2 g from ⟨_, _, _, ⟨H2.buf, fun b hb => Nat.le_trans HB1.out.size (H2.own b hb), HB1.out.trans (hb2.mono HB1.out.size)⟩, by simp⟩)
  clear h2 hb2 H2
  go_wp2_with fail
  go_loopw [21] (fun i wr => ∃ k : Nat, k ≤ l.length ∧ i = .int .i64 k ∧ Hid (AskRun 74 w wr g)) (fun i _ => l.length - (intOf i).toNat)
  case atStart => exact ⟨0, by omega, rfl, H0⟩
  case round =>
    clear H0
    obtain ⟨k, hk, rfl, H⟩ := hrel
    obtain ⟨S, v, q, hq0, hw0⟩ := H.out
    have HQ := Lib.hid hq0; have HW := Lib.hid hw0
    clear hq0 hw0
    by_cases hlt : k < l.length
    · obtain ⟨b, off, x, y, z, u, rfl, hx, hy, hz, hu⟩ := turn_row HA.out HR.out HQ.out.below hlt
      have i0 : (0 : Int) ≤ (k : Int) := by omega
      have i1 : (k : Int) < (l.length : Int) := by omega
      have HQ1 := Lib.hid (HQ.out.alloc (.cells #[.int .i64 x, .int .i64 y, .int .i64 z, .int .i64 u] 28))
      cases hq : (x == 0)
      · have HN := Lib.hid (show AskRun 74 w _ g from ⟨_, _, _, HQ1.out, HW.out⟩)
        go_wp2_with fail
        go_roundw
        case rel => exact ⟨k + 1, by omega, by go_num, HN⟩
        case measure => simp [intOf]; omega
      · go_wp2_with fail
        refine (bufAsk S g v q y z u _ HQ1.out.buf).mono ?_
        rintro e w3 ⟨rfl, ⟨v3, h3⟩, c3⟩
        have HN := Lib.hid (show AskRun 74 w w3 g from ⟨_, _, _, HQ1.out.plus h3 c3, ask_waits HW.out⟩)
        clear h3 c3
        go_wp2_with fail
        go_roundw
        case rel => exact ⟨k + 1, by omega, by go_num, HN⟩
        case measure => simp [intOf]; omega
    · have hke : k = l.length := by omega
      subst hke
      clear hk hlt
      go_wp2_with fail
      refine (bufLate S g v q now _ HQ.out.buf).mono ?_
      rintro e w3 ⟨v', rfl, ho, hb, c3⟩
      have H3 := Lib.hid (HQ.out.same hb c3)
      obtain ⟨A3, cap3, rfl, hids⟩ := ints_slice ho
      have HI := Lib.hid ho
      have HL := Lib.hid hids
      clear hb c3 ho hids
      cases hn : Tide.timeOk now
      · have e1 : Tide.lateErr now = 1 := by unfold Tide.lateErr; rw [hn]; rfl
        have e2 : (Tide.lateIds q now).length = 0 := by unfold Tide.lateIds; rw [hn]; rfl
        rw [e1, e2]
        clear e1 e2 hn HI HL
        go_wp2_with fail
        go_ret
        exact ⟨rfl, H3.out.below⟩
      · have e1 : Tide.lateErr now = 0 := by unfold Tide.lateErr; rw [hn]; rfl
        rw [e1]
        have HT := Lib.hid hn
        have hq200 := H3.out.buf.small
        clear e1 hn
        go_wp2_with fail
        refine (bufAll S g _ (Tide.lateLst q now) _ H3.out.buf).mono ?_
        rintro e w4 ⟨v4, rfl, h4, hb4⟩
        have H4 := Lib.hid h4
        have HI4 := Lib.hid (HI.out.below hb4 (Nat.le_refl _))
        have HB4 := Lib.hid (H3.out.below.trans (hb4.mono H3.out.below.size))
        obtain ⟨A4, cap4, rfl, _, _, _⟩ := h4.slice
        clear h4 hb4
        go_wp2_with fail
        go_loopw [10, 51] (fun c i wr => ∃ k : Nat, k ≤ (Tide.lateLst q now).length ∧ i = .int .i64 k ∧ c = .int .i64 ((((Tide.lateLst q now).take k).countP (fun r => r.fate == 4) : Nat) : Int) ∧ Below w4.heap.size w4 wr) (fun _ i _ => (Tide.lateLst q now).length - (intOf i).toNat)
        case atStart => exact ⟨0, by omega, rfl, by simp, Below.refl _ _⟩
        case round =>
          obtain ⟨k, hk, rfl, rfl, hb⟩ := hrel
          have HB := Lib.hid hb
          clear hb
          by_cases hlt : k < (Tide.lateLst q now).length
          · obtain ⟨r, hr⟩ := Tide.get_some _ hlt
            obtain ⟨b, cap', e, c0, c1, c2, c3, c4⟩ := req_row (H4.out.below HB.out (Nat.le_refl _)) hr
            cases e
            have i0 : (0 : Int) ≤ (k : Int) := by omega
            have i1 : (k : Int) < ((Tide.lateLst q now).length : Int) := by omega
            obtain ⟨q1, q2⟩ := late_one HW.out HT.out (List.mem_of_getElem? hr)
            have HC := Lib.hid (Tide.count_snoc (p := fun r : Tide.Req => r.fate == 4) hr)
            have hle : ((Tide.lateLst q now).take k).countP (fun r => r.fate == 4) ≤ 200 := Nat.le_trans List.countP_le_length (by rw [List.length_take]; omega)
            generalize ((Tide.lateLst q now).take k).countP (fun r => r.fate == 4) = N at HC hle ⊢
            have hle' : (N : Int) ≤ 200 := by omega
            have HB5 := Lib.hid (HB.out.alloc HB.out.size (.cells #[.int .i64 r.id, .int .i64 r.source, .int .i64 r.till, .int .i64 r.fate, .int .i64 r.pod] 42))
            clear hr hle
            cases hf : (r.fate == 4)
            · have ht : now < r.till := by
                rw [hf] at q1
                have := of_decide_eq_false q1.symm
                omega
              clear q1 q2
              go_wp2_with fail
              go_roundw
              case rel => exact ⟨k + 1, by omega, by go_num, by rw [HC.out, hf]; go_num, HB5.out⟩
              case measure => simp [intOf]; omega
            · have ht : r.till ≤ now := by
                rw [hf] at q1
                exact of_decide_eq_true q1.symm
              have HM := Lib.hid (q2 (by simpa using hf))
              clear q1 q2
              go_wp2_with fail
              refine (intsHas _ _ (Tide.lateIds q now) r.id _ (HI4.out.below HB5.out (Nat.le_refl _)) (by have := lateIds_le q now; have := HQ.out.buf.small; omega)).mono ?_
              rintro e w6 ⟨rfl, rfl⟩
              rw [decide_eq_true HM.out]
              go_wp2_with fail
              go_roundw
              case rel => exact ⟨k + 1, by omega, by go_num, by rw [HC.out, hf]; go_num, HB5.out⟩
              case measure => simp [intOf]; omega
          · have hke : k = (Tide.lateLst q now).length := by omega
            subst hke
            rw [List.take_length, late_many HW.out HT.out]
            clear hk hlt
            have HF := Lib.hid (show Below w.heap.size w wr from HB4.out.trans (HB.out.mono HB4.out.size))
            go_wp2_with fail
            go_ret
            exact ⟨rfl, HF.out⟩
end Go.Proofs.Ytgcdomoecikooaa
