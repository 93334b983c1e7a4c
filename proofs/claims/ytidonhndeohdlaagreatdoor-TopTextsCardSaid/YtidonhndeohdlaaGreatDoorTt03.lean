/- Of the texts StbC, StbD, StbE, OpenRows: what this claim reaches. -/
import Derived.WalkKit
import Derived.WalkSpells
import Derived.WalkLawsBesides
import Derived.Lib.Hide
import Derived.Handy
import Derived.RegionTactic
import Derived.BigRegion
import Derived.Deep.QuietTactic
import Derived.BigQuiet
import Derived.Deep.RegionLaw
import Derived.Deep.AppendLies
import Derived.Deep.DeepCutAuto
import Derived.Deep.RegionHeld3
import Derived.StillTailTactics
import Derived.IntWalk
import Derived.Deep.Slices
import Derived.Deep.Fields
import Derived.Test.YtidonhndeohdlaaGreatDoorRows
import Derived.Test.YtidonhndeohdlaaGreatDoorTt01
set_option linter.unusedVariables false
set_option linter.unusedSimpArgs false
namespace Go.Proofs.YtidonhndeohdlaaGreatDoor
open Go.RowKit
set_option maxHeartbeats 400000 in
theorem stbClip (n : Int) (w : World) : Calls Tryz.prog 114 #[.int .i64 n] w fun e w' => e = .returned (.int .i64 (Tide.clipT n)) ∧ w' = w := by
  by_cases h0 : n < 0
  · go_enter Tryz.func114, Tryz.ntmps114
    go_wp2_with fail
    go_ret
    exact ⟨ret_int (by unfold Tide.clipT; omega), rfl⟩
  · have h1 : 0 ≤ n := by omega
    by_cases h2 : 100000 < n
    · clear h0
      go_enter Tryz.func114, Tryz.ntmps114
      go_wp2_with fail
      go_ret
      exact ⟨ret_int (by unfold Tide.clipT; omega), rfl⟩
    · have h3 : n ≤ 100000 := by omega
      clear h0 h2
      go_enter Tryz.func114, Tryz.ntmps114
      go_wp2_with fail
      go_ret
      exact ⟨ret_int (by unfold Tide.clipT; omega), rfl⟩
def paceV (p : Tide.Pace) : Value := .agg #[.int .i64 p.win, .int .i64 p.pods, .int .i64 p.pct, .int .i64 p.per]
set_option maxRecDepth 100000 in
set_option maxHeartbeats 1600000 in
theorem stbRight (p : Tide.Pace) (w : World) : Calls Tryz.prog 88 #[paceV p] w fun e w' => e = .returned (paceV p.fix) ∧ Below w.heap.size w w' := by
  unfold paceV
  go_enter Tryz.func88, Tryz.ntmps88
  go_wp2_with fail
  go_region_held3 (fun w' => w'.cell? ⟨w.heap.size, 0, none⟩ = some (.int .i64 p.win) ∧ w'.cell? ⟨w.heap.size, 1, none⟩ = some (.int .i64 p.pods) ∧ w'.cell? ⟨w.heap.size, 2, none⟩ = some (.int .i64 p.pct) ∧ w'.cell? ⟨w.heap.size, 3, none⟩ = some (.int .i64 p.per)) (go_keep) (first | (go_at_call 114; refine (stbClip _ _).mono ?_; rintro e w' ⟨rfl, rfl⟩))
  all_goals
    go_wp2_with fail
    refine bodyPost_ret (v := paceV p.fix) (by simp [results, Tryz.results88, go_sem, paceV, Tide.Pace.fix]) rfl ⟨rfl, ?_⟩
    exact (((Below.refl _ _).alloc (Nat.le_refl _) _).alloc (by simp) _).drew
def BehindPost (w : World) (l : List Tide.Mark) (at0 : Int) (e : Ending) (w' : World) : Prop := ∃ v', e = .returned v' ∧ Tide.ListIn w' 2 Tide.encM v' (Tide.behindL l at0) ∧ w = w'
theorem behind_list {w : World} {b off n cap i : Nat} {l : List Tide.Mark} (hc : ∀ (i : Nat) (a : Tide.Mark) (j : Nat) (u : Value), l[i]? = some a → (Tide.encM a)[j]? = some u → w.cell? ⟨b, off + i * 2 + j, none⟩ = some u) (hb : b < w.heap.size) (hn : l.length = n) (hi : i ≤ n) (hcap : n ≤ cap) :
    Tide.ListIn w 2 Tide.encM (.slice (if cap = i then some ⟨b, off, none⟩ else some ⟨b, off + i * 2, none⟩) (n - i) (cap - i)) (l.drop i) := by
  refine ⟨_, cap - i, by rw [List.length_drop, hn], fun h0 => ?_⟩
  rw [List.length_drop] at h0
  rw [if_neg (by omega)]
  refine ⟨b, off + i * 2, rfl, hb, fun k a j u hk hu => ?_⟩
  rw [List.getElem?_drop] at hk
  have := hc (i + k) a j u hk hu
  rw [show off + i * 2 + k * 2 + j = off + (i + k) * 2 + j by omega]
  exact this
set_option maxRecDepth 100000 in
set_option maxHeartbeats 1600000 in
theorem stbBehind (v : Value) (l : List Tide.Mark) (at0 : Int) (S : Nat → Prop) (w : World) (h : Tide.OwnRow S w 224 2 v l.length (l.flatMap Tide.encM)) (hl : l.length ≤ 1000000) :
    Calls Tryz.prog 164 #[v, .int .i64 at0] w (BehindPost w l at0) := by
  rcases h.2 with ⟨rfl, h0⟩ | ⟨b, cap, rfl, hS, hcap, hmax, hrow⟩
  · have hz : l = [] := List.length_eq_zero_iff.1 h0
    subst hz
    have HF := Lib.hid (show BehindPost w [] at0 (.returned (.slice none 0 0)) w from ⟨_, rfl, ⟨none, 0, rfl, fun h => by simp [Tide.behindL] at h⟩, rfl⟩)
    clear h h0
    go_enter Tryz.func164, Tryz.ntmps164
    go_wp2_with fail
    go_loop [5] (fun i => i = .int .i64 0) (fun _ => 0)
    case atStart => rfl
    case round =>
      subst hrel
      go_wp2_with fail
      go_ret
      exact HF.out
  · obtain ⟨k0, rfl⟩ : ∃ m, cap = m := ⟨_, rfl⟩
    have hm : cap ≤ 9223372036854775807 := hmax
    have HR := Lib.hid hrow
    have hbw := hrow.inside
    clear h hrow hmax
    go_enter Tryz.func164, Tryz.ntmps164
    go_wp2_with fail
    go_loop [5] (fun i => ∃ k : Nat, k ≤ l.length ∧ i = .int .i64 k ∧ Hid (∀ m ∈ l.drop k, at0 < m.1)) (fun i => (intOf i).toNat)
    case atStart => exact ⟨l.length, Nat.le_refl _, rfl, by simp [Hid]⟩
    case round =>
      obtain ⟨k, hk, rfl, hall⟩ := hrel
      by_cases hz : k = 0
      · subst hz
        have HF := Lib.hid (show BehindPost w l at0 (.returned (.slice (some ⟨b, 0, none⟩) l.length cap)) w from ⟨_, rfl, by
          rw [Tide.behind_eq (Nat.zero_le _) hall.out (.inl rfl), List.drop_zero]
          exact ⟨_, cap, rfl, fun _ => ⟨b, 0, rfl, hbw, fun i a j u h1 h2 => by rw [Nat.zero_add]; exact HR.out.cell (Tide.flat_get Tide.encM_length h1 h2)⟩⟩, rfl⟩)
        go_wp2_with fail
        go_ret
        exact HF.out
      · obtain ⟨m, hm1⟩ := Tide.get_some l (show k - 1 < l.length by omega)
        have c0 := HR.out.cell (Tide.flat_get (j := 0) Tide.encM_length hm1 rfl)
        obtain ⟨q, rfl⟩ : ∃ q, k = q + 1 := ⟨k - 1, by omega⟩
        rw [Nat.add_sub_cancel] at c0 hm1
        simp only [Nat.add_zero] at c0
        have i0 : (0 : Int) ≤ (q : Int) := by omega
        have i1 : (q : Int) < (l.length : Int) := by omega
        have HM := Lib.hid hm1
        clear hm1 hz
        by_cases hat : at0 < m.1
        · have HN := Lib.hid (show ∀ m' ∈ l.drop q, at0 < m'.1 from fun m' hm' => by
            rw [Tide.drop_of_get HM.out] at hm'
            rcases List.mem_cons.1 hm' with e | e
            · subst e; exact hat
            · exact hall.out m' e)
          clear hall
          go_wp2_with fail
          go_round
          case rel => exact ⟨q, by omega, by go_num, HN⟩
          case measure => simp [intOf] <;> omega
        · have hle : m.1 ≤ at0 := by omega
          have e := Lib.hid (Tide.behind_eq hk hall.out (.inr ⟨m, by rw [Nat.add_sub_cancel]; exact HM.out, hle⟩))
          have HF := Lib.hid (show BehindPost w l at0 (.returned (.slice (if cap = q + 1 then some ⟨b, 0, none⟩ else some ⟨b, 0 + (q + 1) * 2, none⟩) (l.length - (q + 1)) (cap - (q + 1)))) w from ⟨_, rfl, by
            rw [e.out]
            exact behind_list (fun i a j u h1 h2 => by rw [Nat.zero_add]; exact HR.out.cell (Tide.flat_get Tide.encM_length h1 h2)) hbw rfl hk hcap, rfl⟩)
          rw [Nat.zero_add] at HF
          have q1 : q + 1 ≤ cap := by omega
          have q2 : (0 : Int) ≤ (q : Int) + 1 := by omega
          have q3 : (q : Int) + 1 ≤ (l.length : Int) := by omega
          clear hall hat
          by_cases hcc : cap = q + 1
          · subst hcc
            rw [if_pos rfl, show l.length - (q + 1) = 0 by omega, Nat.sub_self] at HF
            go_wp2_with fail
            go_ret
            exact HF.out
          · rw [if_neg hcc] at HF
            go_wp2_with fail
            go_ret
            exact HF.out
set_option maxHeartbeats 800000 in
theorem stbLimited (p : Tide.Pace) (w : World) : Calls Tryz.prog 165 #[.agg #[.int .i64 p.win, .int .i64 p.pods, .int .i64 p.pct, .int .i64 p.per]] w fun e w' => e = .returned (.bool p.limited) ∧ Below w.heap.size w w' := by
  have hb := fun o => ((Below.refl _ w).alloc (Nat.le_refl _) o)
  have HB := Lib.hid hb
  clear hb
  by_cases h0 : 0 < p.per
  · by_cases h1 : 0 < p.pods
    · go_enter Tryz.func165, Tryz.ntmps165
      go_wp2_with fail
      go_ret
      exact ⟨by simp [Tide.Pace.limited, h0, h1], HB.out _⟩
    · have h1' : p.pods ≤ 0 := by omega
      by_cases h2 : 0 < p.pct
      · go_enter Tryz.func165, Tryz.ntmps165
        go_wp2_with fail
        go_ret
        exact ⟨by simp [Tide.Pace.limited, h0, h1, h2], HB.out _⟩
      · have h2' : p.pct ≤ 0 := by omega
        go_enter Tryz.func165, Tryz.ntmps165
        go_wp2_with fail
        go_ret
        exact ⟨by simp [Tide.Pace.limited, h0, h1, h2], HB.out _⟩
  · have h0' : p.per ≤ 0 := by omega
    go_enter Tryz.func165, Tryz.ntmps165
    go_wp2_with fail
    go_ret
    exact ⟨by simp [Tide.Pace.limited]; omega, HB.out _⟩
structure StbAt (T TM : TypeId) (S : Nat → Prop) (w : World) (g : Nat) (s : Tide.Stb) (vw vm : Value) : Prop where
  head : Tide.At w g T #[.int .i64 s.up.win, .int .i64 s.up.pods, .int .i64 s.up.pct, .int .i64 s.up.per, .int .i64 s.down.win, .int .i64 s.down.pods, .int .i64 s.down.pct, .int .i64 s.down.per, .int .i64 s.last, vw, vm]
  wan : Tide.OwnRow S w TM 2 vw s.wanted.length (s.wanted.flatMap Tide.encM)
  mov : Tide.OwnRow S w TM 2 vm s.moved.length (s.moved.flatMap Tide.encM)
  apart : ∀ b, vw.ownBlock = some b → vm.ownBlock ≠ some b
  own : S g
  lim : ∀ b, S b → b < w.heap.size
theorem StbAt.chg {T TM : TypeId} {S C : Nat → Prop} {w w' : World} {g : Nat} {s : Tide.Stb} {vw vm : Value} (h : StbAt T TM S w g s vw vm) (hc : Tide.Chg C w w') (hs : ∀ b, S b → ¬ C b) : StbAt T TM S w' g s vw vm :=
  ⟨h.head.chg hc (hs g h.own), h.wan.chg hc hs, h.mov.chg hc hs, h.apart, h.own, fun b hb => Nat.lt_of_lt_of_le (h.lim b hb) hc.size⟩
theorem StbAt.below {T TM : TypeId} {S : Nat → Prop} {w w' : World} {g : Nat} {s : Tide.Stb} {vw vm : Value} (h : StbAt T TM S w g s vw vm) (hb : Below w.heap.size w w') : StbAt T TM S w' g s vw vm :=
  h.chg (C := fun _ => False) (Tide.Chg.of_below hb (Nat.le_refl _)) (fun _ _ h => h)
theorem mark_at {w wr : World} {v : Value} {l : List Tide.Mark} (h : Tide.ListIn w 2 Tide.encM v l) (hb : Below w.heap.size w wr) {k : Nat} {m : Tide.Mark} (hk : l[k]? = some m) :
    ∃ b off cap, v = .slice (some ⟨b, off, none⟩) l.length cap ∧ wr.cell? ⟨b, off + k * 2, none⟩ = some (.int .i64 m.1) ∧ wr.cell? ⟨b, off + k * 2 + 1, none⟩ = some (.int .i64 m.2) := by
  obtain ⟨A, cap, rfl, hA⟩ := h
  obtain ⟨b, off, rfl, hlt, hc⟩ := hA (by have := Tide.get_lt hk; omega)
  exact ⟨b, off, cap, rfl, (hb.cell (p := ⟨b, off + k * 2, none⟩) hlt).trans (hc k m 0 _ hk rfl), (hb.cell (p := ⟨b, off + k * 2 + 1, none⟩) hlt).trans (hc k m 1 _ hk rfl)⟩
theorem list_slice {α : Type} {enc : α → List Value} {k : Nat} {w : World} {v : Value} {l : List α} (h : Tide.ListIn w k enc v l) : ∃ A cap, v = .slice A l.length cap := by
  obtain ⟨A, cap, e, _⟩ := h; exact ⟨A, cap, e⟩
open Go.RowKit
def LongPost (w : World) (n : Int) (e : Ending) (w' : World) : Prop := e = .returned (.int .i64 n) ∧ Below w.heap.size w w'
set_option maxRecDepth 100000 in
set_option maxHeartbeats 6400000 in
theorem stbMore (S : Nat → Prop) (g : Nat) (s : Tide.Stb) (vw vm : Value) (now have0 want : Int) (w : World) (j : Nat) (h : StbAt 173 224 S w g s vw vm) (hs : s.ok j) (hj : j ≤ 100000) (n0 : 0 ≤ now) (n1 : now ≤ 1099511627776) (h0 : 0 ≤ have0) (h1 : have0 ≤ 50) (w0 : 0 ≤ want) (w1 : want ≤ 50) :
    Calls Tryz.prog 143 #[.pointer (some ⟨g, 0, none⟩), .int .i64 now, .int .i64 have0, .int .i64 want] w (LongPost w (Tide.moreN s now have0 want)) := by
  obtain ⟨⟨u0, u1⟩, ⟨u2, u3⟩, ⟨u4, u5⟩, ⟨u6, u7⟩⟩ := hs.up
  have c0 : w.cell? ⟨g, 0, none⟩ = some (.int .i64 s.up.win) := h.head.here rfl
  have c3 : w.cell? ⟨g, 9, none⟩ = some vw := h.head.here rfl
  have HH := Lib.hid h; have HS := Lib.hid hs
  have e1 : IntKind.i64.wrap (now - s.up.win) = now - s.up.win := IntWalk.i64_in _ (by omega)
  clear h hs
  go_enter Tryz.func143, Tryz.ntmps143
  go_wp2_with fail
  go_region_held3 (fun w' => w'.cell? ⟨g, 0, none⟩ = some (.int .i64 s.up.win) ∧ w'.cell? ⟨g, 9, none⟩ = some vw) (go_keep) (first | (go_at_call 164; refine (stbBehind vw s.wanted _ S _ HH.out.wan.drew (by have := HS.out.wlen; omega)).mono ?_; rintro e w' ⟨v1, rfl, hl1, rfl⟩; obtain ⟨A1, cap1, rfl⟩ := list_slice hl1))
  all_goals
    have HL := Lib.hid hl1
    have hLen : (Tide.behindL s.wanted (now - s.up.win)).length ≤ 100000 := by have := Tide.behindL_length s.wanted (now - s.up.win); have := HS.out.wlen; omega
    have hMem := Lib.hid (fun m hm => (HS.out.wan m (Tide.behindL_mem (l := s.wanted) (at0 := now - s.up.win) m hm)).1)
    obtain ⟨L, hL⟩ : ∃ L, Tide.behindL s.wanted (now - s.up.win) = L := ⟨_, rfl⟩
    rw [hL] at HL hLen hMem ⊢
    have HLe := Lib.hid hL
    clear hl1 c0 c3 e1 hL
    go_wp2_with fail
    go_loopw [3, 30] (fun x3 i wr => ∃ k : Nat, k ≤ L.length ∧ i = .int .i64 k ∧ x3 = .int .i64 (Tide.minAll (L.take k) want) ∧ Below w.heap.size w wr) (fun _ i _ => L.length - (intOf i).toNat)
    case atStart => exact ⟨0, by omega, rfl, rfl, (Below.refl _ _).drew⟩
    case round =>
      obtain ⟨k, hk, rfl, rfl, hb⟩ := hrel
      by_cases hlt : k < L.length
      · obtain ⟨m, hm⟩ := Tide.get_some L hlt
        obtain ⟨b, off, cap', e, d0, d1⟩ := mark_at (w := w.drew) HL.out (wr := wr) ⟨hb.os, hb.tape, hb.output, hb.size, hb.block⟩ hm
        cases e
        have i0 : (0 : Int) ≤ (k : Int) := by omega
        have i1 : (k : Int) < (L.length : Int) := by omega
        have HF := Lib.hid (Tide.fold_snoc (f := fun (a : Int) (m : Tide.Mark) => min a m.2) (x := want) hm)
        change Hid (Tide.minAll (L.take (k + 1)) want = min (Tide.minAll (L.take k) want) m.2) at HF
        generalize Tide.minAll (L.take k) want = a at HF ⊢
        have HB := Lib.hid (hb.alloc hb.size (.cells #[.int .i64 m.1, .int .i64 m.2] 224))
        clear hb hm
        by_cases hc : m.2 < a
        · go_wp2_with fail
          go_roundw
          case rel => exact ⟨k + 1, by omega, by go_num, by rw [HF.out, show min a m.2 = m.2 by omega], HB.out⟩
          case measure => simp [intOf]; omega
        · have hc' : a ≤ m.2 := by omega
          go_wp2_with fail
          go_roundw
          case rel => exact ⟨k + 1, by omega, by go_num, by rw [HF.out, show min a m.2 = a by omega], HB.out⟩
          case measure => simp [intOf]; omega
      · have hke : k = L.length := by omega
        subst hke
        rw [List.take_length]
        have hmb := Tide.minAll_bd L want w0 w1 hMem.out
        have HM1 := Lib.hid (show Tide.moreN s now have0 want = max (if s.up.limited then min (Tide.minAll L want) (Tide.baseUp s now have0 + max s.up.pods (Tide.ceilc (Tide.baseUp s now have0 * s.up.pct) 100)) else Tide.minAll L want) have0 by unfold Tide.moreN; rw [HLe.out])
        generalize Tide.minAll L want = a at HM1 hmb ⊢
        obtain ⟨a0, a1⟩ := hmb
        have h2 := HH.out.below hb
        have d0 := h2.head.here (i := 0) rfl; have d1 := h2.head.here (i := 1) rfl; have d2 := h2.head.here (i := 2) rfl; have d3 := h2.head.here (i := 3) rfl
        have H2 := Lib.hid h2; have HB := Lib.hid hb
        clear h2 hb
        go_wp2_with fail
        refine (stbLimited s.up _).mono ?_
        rintro e w2 ⟨rfl, hb2⟩
        have hB2 := HB.out.trans (hb2.mono HB.out.size)
        have h3 := HH.out.below hB2
        clear d0 d1 d2 d3 hb2
        cases hlim : s.up.limited
        · have HF := Lib.hid (show LongPost w (Tide.moreN s now have0 want) (.returned (.int .i64 (max a have0))) w2 from ⟨by rw [HM1.out, hlim]; rfl, hB2⟩)
          clear h3 hB2 hlim
          by_cases hc : a < have0
          · rw [show max a have0 = have0 by omega] at HF
            go_wp2_with fail
            go_ret
            exact HF.out
          · rw [show max a have0 = a by omega] at HF
            have hc' : have0 ≤ a := by omega
            go_wp2_with fail
            go_ret
            exact HF.out
        · have d3 : w2.cell? ⟨g, 3, none⟩ = some (.int .i64 s.up.per) := h3.head.here rfl
          have d10 : w2.cell? ⟨g, 10, none⟩ = some vm := h3.head.here rfl
          have H3 := Lib.hid h3; have HB2 := Lib.hid hB2
          have e1 : IntKind.i64.wrap (now - s.up.per) = now - s.up.per := IntWalk.i64_in _ (by omega)
          have HLM := Lib.hid hlim
          clear h3 hB2 hlim
          go_wp2_with fail
          go_region_held3 (fun w' => w'.cell? ⟨g, 3, none⟩ = some (.int .i64 s.up.per) ∧ w'.cell? ⟨g, 10, none⟩ = some vm) (go_keep) (first | (go_at_call 164; refine (stbBehind vm s.moved _ S _ H3.out.mov.drew (by have := HS.out.mlen; omega)).mono ?_; rintro e w' ⟨v2, rfl, hl2, rfl⟩; obtain ⟨A2, cap2, rfl⟩ := list_slice hl2))
          all_goals
            have HL2 := Lib.hid hl2
            have hLen2 : (Tide.behindL s.moved (now - s.up.per)).length ≤ 100000 := by have := Tide.behindL_length s.moved (now - s.up.per); have := HS.out.mlen; omega
            have hMem2 := Lib.hid (fun m hm => (HS.out.mov m (Tide.behindL_mem (l := s.moved) (at0 := now - s.up.per) m hm)).1)
            obtain ⟨M, hM⟩ : ∃ M, Tide.behindL s.moved (now - s.up.per) = M := ⟨_, rfl⟩
            rw [hM] at HL2 hLen2 hMem2 ⊢
            have HMe := Lib.hid hM
            clear hl2 d3 d10 e1 hM
            go_wp2_with fail
            go_loopw [11, 57] (fun x3 i wr => ∃ k : Nat, k ≤ M.length ∧ i = .int .i64 k ∧ x3 = .int .i64 (Tide.sumUp (M.take k) 0) ∧ Below w2.heap.size w2 wr) (fun _ i _ => M.length - (intOf i).toNat)
            case atStart => exact ⟨0, by omega, rfl, rfl, (Below.refl _ _).drew⟩
            case round =>
              obtain ⟨k, hk, rfl, rfl, hb⟩ := hrel
              by_cases hlt : k < M.length
              · obtain ⟨m, hm⟩ := Tide.get_some M hlt
                obtain ⟨b, off, cap', e, d0, d1⟩ := mark_at (w := w2.drew) HL2.out (wr := wr) ⟨hb.os, hb.tape, hb.output, hb.size, hb.block⟩ hm
                cases e
                have i0 : (0 : Int) ≤ (k : Int) := by omega
                have i1 : (k : Int) < (M.length : Int) := by omega
                have hmb := hMem2.out m (List.mem_of_getElem? hm)
                have hsb := Tide.sumUp_bd (M.take k) 0 (fun m hm => hMem2.out m (List.mem_of_mem_take hm))
                have hkl : ((M.take k).length : Int) ≤ 100000 := by rw [List.length_take]; omega
                have HF := Lib.hid (Tide.fold_snoc (f := fun (a : Int) (m : Tide.Mark) => a + max m.2 0) (x := 0) hm)
                change Hid (Tide.sumUp (M.take (k + 1)) 0 = Tide.sumUp (M.take k) 0 + max m.2 0) at HF
                generalize Tide.sumUp (M.take k) 0 = t at HF hsb ⊢
                have t0 : 0 ≤ t := hsb.1
                have t1 : t ≤ 5000000 := by omega
                obtain ⟨m0, m1⟩ := hmb
                have HB := Lib.hid (hb.alloc hb.size (.cells #[.int .i64 m.1, .int .i64 m.2] 224))
                clear hb hm hsb hkl
                by_cases hc : m.2 < 0
                · go_wp2_with fail
                  go_roundw
                  case rel => exact ⟨k + 1, by omega, by go_num, by rw [HF.out, show t + max m.2 0 = t by omega], HB.out⟩
                  case measure => simp [intOf]; omega
                · have hc' : 0 ≤ m.2 := by omega
                  go_wp2_with fail
                  go_roundw
                  case rel => exact ⟨k + 1, by omega, by go_num, by rw [HF.out, show t + max m.2 0 = t + m.2 by omega], HB.out⟩
                  case measure => simp [intOf]; omega
              · have hke : k = M.length := by omega
                subst hke
                rw [List.take_length]
                have hsb := Tide.sumUp_bd M 0 hMem2.out
                have HBu := Lib.hid (show Tide.baseUp s now have0 = max (have0 - Tide.sumUp M 0) 0 by unfold Tide.baseUp; rw [HMe.out])
                generalize Tide.sumUp M 0 = t at HBu hsb ⊢
                have t0 : 0 ≤ t := hsb.1
                have t1 : t ≤ 5000000 := by omega
                have HB3 := Lib.hid (HB2.out.trans (hb.mono HB2.out.size))
                have h4 := H3.out.below hb
                have d1 : wr.cell? ⟨g, 1, none⟩ = some (.int .i64 s.up.pods) := h4.head.here rfl
                have d2 : wr.cell? ⟨g, 2, none⟩ = some (.int .i64 s.up.pct) := h4.head.here rfl
                clear hb h4 hsb
                go_upto_region 13 with fail
                go_cut [14] (fun s14 wx => s14 = .int .i64 (max (have0 - t) 0) ∧ wx = wr)
                case first =>
                  by_cases hc : have0 - t < 0
                  · go_wp2_with fail
                    go_meet
                    exact ⟨by rw [show max (have0 - t) 0 = 0 by omega], rfl⟩
                  · have hc' : 0 ≤ have0 - t := by omega
                    go_wp2_with fail
                    go_meet
                    exact ⟨by rw [show max (have0 - t) 0 = have0 - t by omega], rfl⟩
                case rest =>
                  obtain ⟨rfl, rfl⟩ := hcut
                  have B0 : 0 ≤ max (have0 - t) 0 := by omega
                  have B1 : max (have0 - t) 0 ≤ 50 := by omega
                  generalize max (have0 - t) 0 = B at HBu B0 B1 ⊢
                  obtain ⟨q0, q1⟩ := Tide.mul_bd B0 B1 u4 u5
                  have q2 : B * s.up.pct ≤ 5000000 := by omega
                  clear q1
                  go_wp2_with fail
                  refine (numCeil_yes _ _ _ (by omega)).mono ?_
                  rintro e w' ⟨rfl, rfl⟩
                  obtain ⟨z0, z1⟩ := Tide.ceilc_bd (B * s.up.pct)
                  have HFn := Lib.hid (show ∀ x, x = max (min a (B + max s.up.pods (Tide.ceilc (B * s.up.pct) 100))) have0 → LongPost w (Tide.moreN s now have0 want) (.returned (.int .i64 x)) _ from fun x hx => ⟨by rw [HM1.out, HLM.out, HBu.out, hx]; rfl, HB3.out⟩)
                  generalize Tide.ceilc (B * s.up.pct) 100 = C at HFn z0 z1 ⊢
                  clear HM1 HBu q0 q2
                  go_wp2_with fail
                  all_goals
                    go_ret
                    exact HFn.out _ (by omega)
open Go.RowKit
set_option maxRecDepth 100000 in
set_option maxHeartbeats 6400000 in
theorem stbFewer (S : Nat → Prop) (g : Nat) (s : Tide.Stb) (vw vm : Value) (now have0 want : Int) (w : World) (j : Nat) (h : StbAt 173 224 S w g s vw vm) (hs : s.ok j) (hj : j ≤ 100000) (n0 : 0 ≤ now) (n1 : now ≤ 1099511627776) (h0 : 0 ≤ have0) (h1 : have0 ≤ 50) (w0 : 0 ≤ want) (w1 : want ≤ 50) :
    Calls Tryz.prog 144 #[.pointer (some ⟨g, 0, none⟩), .int .i64 now, .int .i64 have0, .int .i64 want] w (LongPost w (Tide.fewerN s now have0 want)) := by
  obtain ⟨⟨u0, u1⟩, ⟨u2, u3⟩, ⟨u4, u5⟩, ⟨u6, u7⟩⟩ := hs.down
  have c0 : w.cell? ⟨g, 4, none⟩ = some (.int .i64 s.down.win) := h.head.here rfl
  have c3 : w.cell? ⟨g, 9, none⟩ = some vw := h.head.here rfl
  have HH := Lib.hid h; have HS := Lib.hid hs
  have e1 : IntKind.i64.wrap (now - s.down.win) = now - s.down.win := IntWalk.i64_in _ (by omega)
  clear h hs
  go_enter Tryz.func144, Tryz.ntmps144
  go_wp2_with fail
  go_region_held3 (fun w' => w'.cell? ⟨g, 4, none⟩ = some (.int .i64 s.down.win) ∧ w'.cell? ⟨g, 9, none⟩ = some vw) (go_keep) (first | (go_at_call 164; refine (stbBehind vw s.wanted _ S _ HH.out.wan.drew (by have := HS.out.wlen; omega)).mono ?_; rintro e w' ⟨v1, rfl, hl1, rfl⟩; obtain ⟨A1, cap1, rfl⟩ := list_slice hl1))
  all_goals
    have HL := Lib.hid hl1
    have hLen : (Tide.behindL s.wanted (now - s.down.win)).length ≤ 100000 := by have := Tide.behindL_length s.wanted (now - s.down.win); have := HS.out.wlen; omega
    have hMem := Lib.hid (fun m hm => (HS.out.wan m (Tide.behindL_mem (l := s.wanted) (at0 := now - s.down.win) m hm)).1)
    obtain ⟨L, hL⟩ : ∃ L, Tide.behindL s.wanted (now - s.down.win) = L := ⟨_, rfl⟩
    rw [hL] at HL hLen hMem ⊢
    have HLe := Lib.hid hL
    clear hl1 c0 c3 e1 hL
    go_wp2_with fail
    go_loopw [3, 27] (fun x3 i wr => ∃ k : Nat, k ≤ L.length ∧ i = .int .i64 k ∧ x3 = .int .i64 (Tide.maxAll (L.take k) want) ∧ Below w.heap.size w wr) (fun _ i _ => L.length - (intOf i).toNat)
    case atStart => exact ⟨0, by omega, rfl, rfl, (Below.refl _ _).drew⟩
    case round =>
      obtain ⟨k, hk, rfl, rfl, hb⟩ := hrel
      by_cases hlt : k < L.length
      · obtain ⟨m, hm⟩ := Tide.get_some L hlt
        obtain ⟨b, off, cap', e, d0, d1⟩ := mark_at (w := w.drew) HL.out (wr := wr) ⟨hb.os, hb.tape, hb.output, hb.size, hb.block⟩ hm
        cases e
        have i0 : (0 : Int) ≤ (k : Int) := by omega
        have i1 : (k : Int) < (L.length : Int) := by omega
        have HF := Lib.hid (Tide.fold_snoc (f := fun (a : Int) (m : Tide.Mark) => max a m.2) (x := want) hm)
        change Hid (Tide.maxAll (L.take (k + 1)) want = max (Tide.maxAll (L.take k) want) m.2) at HF
        generalize Tide.maxAll (L.take k) want = a at HF ⊢
        have HB := Lib.hid (hb.alloc hb.size (.cells #[.int .i64 m.1, .int .i64 m.2] 224))
        clear hb hm
        by_cases hc : a < m.2
        · go_wp2_with fail
          go_roundw
          case rel => exact ⟨k + 1, by omega, by go_num, by rw [HF.out, show max a m.2 = m.2 by omega], HB.out⟩
          case measure => simp [intOf]; omega
        · have hc' : m.2 ≤ a := by omega
          go_wp2_with fail
          go_roundw
          case rel => exact ⟨k + 1, by omega, by go_num, by rw [HF.out, show max a m.2 = a by omega], HB.out⟩
          case measure => simp [intOf]; omega
      · have hke : k = L.length := by omega
        subst hke
        rw [List.take_length]
        have hmb := Tide.maxAll_bd L want w0 w1 hMem.out
        have HM1 := Lib.hid (show Tide.fewerN s now have0 want = min (if s.down.limited then max (Tide.maxAll L want) (Tide.baseDown s now have0 - max s.down.pods (Tide.sharec (Tide.baseDown s now have0) (10 * s.down.pct))) else Tide.maxAll L want) have0 by unfold Tide.fewerN; rw [HLe.out])
        generalize Tide.maxAll L want = a at HM1 hmb ⊢
        obtain ⟨a0, a1⟩ := hmb
        have h2 := HH.out.below hb
        have d0 := h2.head.here (i := 4) rfl; have d1 := h2.head.here (i := 5) rfl; have d2 := h2.head.here (i := 6) rfl; have d3 := h2.head.here (i := 7) rfl
        have H2 := Lib.hid h2; have HB := Lib.hid hb
        clear h2 hb
        go_wp2_with fail
        refine (stbLimited s.down _).mono ?_
        rintro e w2 ⟨rfl, hb2⟩
        have hB2 := HB.out.trans (hb2.mono HB.out.size)
        have h3 := HH.out.below hB2
        clear d0 d1 d2 d3 hb2
        cases hlim : s.down.limited
        · have HF := Lib.hid (show LongPost w (Tide.fewerN s now have0 want) (.returned (.int .i64 (min a have0))) w2 from ⟨by rw [HM1.out, hlim]; rfl, hB2⟩)
          clear h3 hB2 hlim
          by_cases hc : have0 < a
          · rw [show min a have0 = have0 by omega] at HF
            go_wp2_with fail
            go_ret
            exact HF.out
          · rw [show min a have0 = a by omega] at HF
            have hc' : a ≤ have0 := by omega
            go_wp2_with fail
            go_ret
            exact HF.out
        · have d3 : w2.cell? ⟨g, 7, none⟩ = some (.int .i64 s.down.per) := h3.head.here rfl
          have d10 : w2.cell? ⟨g, 10, none⟩ = some vm := h3.head.here rfl
          have H3 := Lib.hid h3; have HB2 := Lib.hid hB2
          have e1 : IntKind.i64.wrap (now - s.down.per) = now - s.down.per := IntWalk.i64_in _ (by omega)
          have HLM := Lib.hid hlim
          clear h3 hB2 hlim
          go_wp2_with fail
          go_region_held3 (fun w' => w'.cell? ⟨g, 7, none⟩ = some (.int .i64 s.down.per) ∧ w'.cell? ⟨g, 10, none⟩ = some vm) (go_keep) (first | (go_at_call 164; refine (stbBehind vm s.moved _ S _ H3.out.mov.drew (by have := HS.out.mlen; omega)).mono ?_; rintro e w' ⟨v2, rfl, hl2, rfl⟩; obtain ⟨A2, cap2, rfl⟩ := list_slice hl2))
          all_goals
            have HL2 := Lib.hid hl2
            have hLen2 : (Tide.behindL s.moved (now - s.down.per)).length ≤ 100000 := by have := Tide.behindL_length s.moved (now - s.down.per); have := HS.out.mlen; omega
            have hMem2 := Lib.hid (fun m hm => (HS.out.mov m (Tide.behindL_mem (l := s.moved) (at0 := now - s.down.per) m hm)).1)
            obtain ⟨M, hM⟩ : ∃ M, Tide.behindL s.moved (now - s.down.per) = M := ⟨_, rfl⟩
            rw [hM] at HL2 hLen2 hMem2 ⊢
            have HMe := Lib.hid hM
            clear hl2 d3 d10 e1 hM
            go_wp2_with fail
            go_loopw [11, 55] (fun x3 i wr => ∃ k : Nat, k ≤ M.length ∧ i = .int .i64 k ∧ x3 = .int .i64 (Tide.sumDown (M.take k) have0) ∧ Below w2.heap.size w2 wr) (fun _ i _ => M.length - (intOf i).toNat)
            case atStart => exact ⟨0, by omega, rfl, rfl, (Below.refl _ _).drew⟩
            case round =>
              obtain ⟨k, hk, rfl, rfl, hb⟩ := hrel
              by_cases hlt : k < M.length
              · obtain ⟨m, hm⟩ := Tide.get_some M hlt
                obtain ⟨b, off, cap', e, d0, d1⟩ := mark_at (w := w2.drew) HL2.out (wr := wr) ⟨hb.os, hb.tape, hb.output, hb.size, hb.block⟩ hm
                cases e
                have i0 : (0 : Int) ≤ (k : Int) := by omega
                have i1 : (k : Int) < (M.length : Int) := by omega
                have hmb := hMem2.out m (List.mem_of_getElem? hm)
                have hsb := Tide.sumDown_bd (M.take k) have0 (fun m hm => hMem2.out m (List.mem_of_mem_take hm))
                have hkl : ((M.take k).length : Int) ≤ 100000 := by rw [List.length_take]; omega
                have HF := Lib.hid (Tide.fold_snoc (f := fun (a : Int) (m : Tide.Mark) => a + max (-m.2) 0) (x := have0) hm)
                change Hid (Tide.sumDown (M.take (k + 1)) have0 = Tide.sumDown (M.take k) have0 + max (-m.2) 0) at HF
                generalize Tide.sumDown (M.take k) have0 = t at HF hsb ⊢
                have t0 : 0 ≤ t := by omega
                have t1 : t ≤ 5000050 := by omega
                obtain ⟨m0, m1⟩ := hmb
                have HB := Lib.hid (hb.alloc hb.size (.cells #[.int .i64 m.1, .int .i64 m.2] 224))
                clear hb hm hsb hkl
                by_cases hc : -m.2 < 0
                · go_wp2_with fail
                  go_roundw
                  case rel => exact ⟨k + 1, by omega, by go_num, by rw [HF.out, show t + max (-m.2) 0 = t by omega], HB.out⟩
                  case measure => simp [intOf]; omega
                · have hc' : 0 ≤ -m.2 := by omega
                  go_wp2_with fail
                  go_roundw
                  case rel => exact ⟨k + 1, by omega, by go_num, by rw [HF.out, show t + max (-m.2) 0 = t + -m.2 by omega], HB.out⟩
                  case measure => simp [intOf]; omega
              · have hke : k = M.length := by omega
                subst hke
                rw [List.take_length]
                have hsb := Tide.sumDown_bd M have0 hMem2.out
                have HBu := Lib.hid (show Tide.baseDown s now have0 = Tide.sumDown M have0 by unfold Tide.baseDown; rw [HMe.out])
                generalize Tide.sumDown M have0 = B at HBu hsb ⊢
                have t0 : 0 ≤ B := by omega
                have t1 : B ≤ 5000050 := by omega
                have HB3 := Lib.hid (HB2.out.trans (hb.mono HB2.out.size))
                have h4 := H3.out.below hb
                have d1 : wr.cell? ⟨g, 5, none⟩ = some (.int .i64 s.down.pods) := h4.head.here rfl
                have d2 : wr.cell? ⟨g, 6, none⟩ = some (.int .i64 s.down.pct) := h4.head.here rfl
                obtain ⟨z0, z1⟩ := Tide.sharec_bd B (10 * s.down.pct)
                have HFn := Lib.hid (show ∀ x, x = min (max a (B - max s.down.pods (Tide.sharec B (10 * s.down.pct)))) have0 → ∀ w', wr = w' ∨ wr.drew = w' → LongPost w (Tide.fewerN s now have0 want) (.returned (.int .i64 x)) w' from fun x hx w' hw' => ⟨by rw [HM1.out, HLM.out, HBu.out, hx]; rfl, by rcases hw' with rfl | rfl; exact HB3.out; exact HB3.out.drew⟩)
                clear hb h4 hsb HM1 HBu
                have hmul : IntKind.i64.wrap (10 * s.down.pct) = 10 * s.down.pct := IntWalk.i64_in _ (by omega)
                by_cases hp : s.down.pods < Tide.sharec B (10 * s.down.pct)
                · have hw1 : IntKind.i64.wrap (B - Tide.sharec B (10 * s.down.pct)) = B - Tide.sharec B (10 * s.down.pct) := IntWalk.i64_in _ (by omega)
                  by_cases hq : a < B - Tide.sharec B (10 * s.down.pct)
                  · go_wp2_with fail
                    go_region_held3 (fun w' => w'.cell? ⟨g, 5, none⟩ = some (.int .i64 s.down.pods) ∧ w'.cell? ⟨g, 6, none⟩ = some (.int .i64 s.down.pct)) (go_keep) (first | (go_at_call 163; refine (numShare _ _ _).mono ?_; rintro e w' ⟨rfl, rfl⟩))
                    all_goals
                      clear hmul hw1
                      go_wp2_with fail
                      all_goals
                        go_ret
                        exact HFn.out _ (by omega) _ (.inr rfl)
                  · have hq' : B - Tide.sharec B (10 * s.down.pct) ≤ a := by omega
                    go_wp2_with fail
                    go_region_held3 (fun w' => w'.cell? ⟨g, 5, none⟩ = some (.int .i64 s.down.pods) ∧ w'.cell? ⟨g, 6, none⟩ = some (.int .i64 s.down.pct)) (go_keep) (first | (go_at_call 163; refine (numShare _ _ _).mono ?_; rintro e w' ⟨rfl, rfl⟩))
                    all_goals
                      clear hmul hw1
                      go_wp2_with fail
                      all_goals
                        go_ret
                        exact HFn.out _ (by omega) _ (.inr rfl)
                · have hp' : Tide.sharec B (10 * s.down.pct) ≤ s.down.pods := by omega
                  have hw1 : IntKind.i64.wrap (B - s.down.pods) = B - s.down.pods := IntWalk.i64_in _ (by omega)
                  by_cases hq : a < B - s.down.pods
                  · go_wp2_with fail
                    go_region_held3 (fun w' => w'.cell? ⟨g, 5, none⟩ = some (.int .i64 s.down.pods) ∧ w'.cell? ⟨g, 6, none⟩ = some (.int .i64 s.down.pct)) (go_keep) (first | (go_at_call 163; refine (numShare _ _ _).mono ?_; rintro e w' ⟨rfl, rfl⟩))
                    all_goals
                      clear hmul hw1
                      go_wp2_with fail
                      all_goals
                        go_ret
                        exact HFn.out _ (by omega) _ (.inr rfl)
                  · have hq' : B - s.down.pods ≤ a := by omega
                    go_wp2_with fail
                    go_region_held3 (fun w' => w'.cell? ⟨g, 5, none⟩ = some (.int .i64 s.down.pods) ∧ w'.cell? ⟨g, 6, none⟩ = some (.int .i64 s.down.pct)) (go_keep) (first | (go_at_call 163; refine (numShare _ _ _).mono ?_; rintro e w' ⟨rfl, rfl⟩))
                    all_goals
                      clear hmul hw1
                      go_wp2_with fail
                      all_goals
                        go_ret
                        exact HFn.out _ (by omega) _ (.inr rfl)
open Go.ChangeShapes Go.WideShapes Go.ChangeAt Go.RowKit Go.Deep
def RowsAt (w : World) (k : Nat) (A : Option Addr) (l : List (List Int)) : Prop :=
  0 < l.length → ∃ b off, A = some ⟨b, off, none⟩ ∧ b < w.heap.size ∧ ∀ i row j x, l[i]? = some row → row[j]? = some x → w.cell? ⟨b, off + i * k + j, none⟩ = some (.int .i64 x)
theorem RowsAt.below {B k : Nat} {w w' : World} {A : Option Addr} {l : List (List Int)} (h : RowsAt w k A l) (hb : Below B w w') (hB : w.heap.size ≤ B) : RowsAt w' k A l := fun h0 => by
  obtain ⟨b, off, e, hlt, hc⟩ := h h0
  refine ⟨b, off, e, Nat.lt_of_lt_of_le hlt hb.size, fun i row j x h1 h2 => ?_⟩
  exact (hb.cell (p := ⟨b, off + i * k + j, none⟩) (by show b < B; omega)).trans (hc i row j x h1 h2)
def ArgRows (w : World) (k : Nat) (v : Value) (l : List (List Int)) : Prop :=
  ∃ A cap, v = .slice A l.length cap ∧ l.length ≤ cap ∧ cap ≤ maxLen ∧ (∀ row ∈ l, row.length = k ∧ ∀ x ∈ row, -9223372036854775808 ≤ x ∧ x ≤ 9223372036854775807) ∧ RowsAt w k A l
theorem rows_cells_int : Tryz.prog.cellsOf 3 = 1 := by kernel_rfl
section
variable {H : Type} {enc : TypeId × Value → H} {w : World} {base : Nat} {spare : Nat → Bool} {held : Bool}
theorem cell_spot {w : World} {a : Addr} {v : Value} (h : w.cell? a = some v) : a.spot = none := by
  unfold World.cell? at h
  split at h
  · cases hs : a.spot with
    | none => rfl
    | some s => simp [hs] at h
  · simp at h
set_option maxRecDepth 100000 in
set_option maxHeartbeats 100000 in
theorem open_rows' {t e : TypeId} {k : Nat} {v : Value} {d : DataW H} {p : List MemPlace} (ht : Tryz.prog.underlying t = some (.slice e)) (hC : Tryz.prog.cellsOf e = k) (hk : 0 < k)
    (helem : ∀ (n : Nat) (cs : List Value) (y : DataW H × List MemPlace), DataW.trod enc Tryz.prog w base spare held n e cs = some y → ∃ row : List Int, row.length = k ∧ cs = row.map (Value.int .i64) ∧ ∀ x ∈ row, -9223372036854775808 ≤ x ∧ x ≤ 9223372036854775807)
    (h1 : ∃ a len cap, v = .slice a len cap) (h : DataW.Trod enc Tryz.prog w base spare held t v d p) : ∃ l, ArgRows w k v l := by
  obtain ⟨a0, len0, cap0, e1⟩ := h1
  subst e1
  obtain ⟨fuel, hf⟩ := h
  rcases open_slice ht hf with ⟨hcs, hx⟩ | ⟨a, len, cap, m, n, D, Pl, hcs, hb, hl, hm, hmm, hx, hi⟩
  · simp [Value.cells] at hcs
    obtain ⟨rfl, rfl, rfl⟩ := hcs
    exact ⟨[], none, 0, rfl, Nat.le_refl 0, Nat.zero_le maxLen, fun row hr => absurd hr (by simp), fun h0 => absurd h0 (by simp)⟩
  · simp [Value.cells] at hcs
    obtain ⟨rfl, rfl, rfl⟩ := hcs
    have hlm : len0 ≤ m := by rw [hmm]; split <;> omega
    have hrow : ∀ i, i < len0 → ∃ row : List Int, row.length = k ∧ (∀ x ∈ row, -9223372036854775808 ≤ x ∧ x ≤ 9223372036854775807) ∧ ∀ j x, row[j]? = some x → w.cell? (a.add (i * k + j)) = some (.int .i64 x) := by
      intro i hlt
      obtain ⟨cs', hc, ht'⟩ := hi i (by omega)
      rw [hC] at hc
      obtain ⟨row, hr, rfl, hbd⟩ := helem n cs' _ ht'
      obtain ⟨_, hcl, hat⟩ := World.cells?_some hc
      refine ⟨row, hr, hbd, fun j x hj => ?_⟩
      have hjl : j < k := by
        rw [← hr]
        rcases Nat.lt_or_ge j row.length with hl' | hl'
        · exact hl'
        · rw [List.getElem?_eq_none hl'] at hj; cases hj
      rw [← Go.Deep.add_add, hat j hjl]
      simp [hj]
    obtain ⟨f, hf'⟩ : ∃ f : Nat → List Int, ∀ i, i < len0 → (f i).length = k ∧ (∀ x ∈ f i, -9223372036854775808 ≤ x ∧ x ≤ 9223372036854775807) ∧ ∀ j x, (f i)[j]? = some x → w.cell? (a.add (i * k + j)) = some (.int .i64 x) := by
      refine ⟨fun i => if h : i < len0 then Classical.choose (hrow i h) else [], fun i hlt => ?_⟩
      simp only [dif_pos hlt]
      exact Classical.choose_spec (hrow i hlt)
    refine ⟨(List.range len0).map f, some a, cap0, by simp, by simpa using hl, hm, ?_, ?_⟩
    · intro row hmem
      simp only [List.mem_map, List.mem_range] at hmem
      obtain ⟨i, hlt, rfl⟩ := hmem
      exact ⟨(hf' i hlt).1, (hf' i hlt).2.1⟩
    · intro h0
      simp at h0
      have hc0 : w.cell? (a.add (0 * k + 0)) = some (.int .i64 ((f 0)[0]'(by rw [(hf' 0 h0).1]; exact hk))) := (hf' 0 h0).2.2 0 _ (List.getElem?_eq_getElem _)
      have hs : a.spot = none := by
        have := cell_spot hc0
        simpa [Addr.add] using this
      obtain ⟨b, off, sp⟩ := a
      simp only at hs
      subst hs
      refine ⟨b, off, rfl, ?_, ?_⟩
      · have := World.block_lt_of_cell? w _ hc0
        simpa [Addr.add] using this
      · intro i row j x h1 h2
        simp only [List.getElem?_map] at h1
        have hlt : i < len0 := by
          rcases Nat.lt_or_ge i len0 with hl' | hl'
          · exact hl'
          · rw [List.getElem?_eq_none (by simpa using hl')] at h1; simp at h1
        rw [List.getElem?_range hlt] at h1
        simp at h1
        subst h1
        have := (hf' i hlt).2.2 j x h2
        rw [← this, ← Go.Deep.add_add]
        unfold Addr.add
        congr 1
        by_cases h3 : i * k = 0 <;> by_cases h4 : j = 0 <;> simp [h3, h4, Nat.add_assoc]
set_option maxRecDepth 100000 in
theorem open_rows {r : Reach} {b0 : Nat} {t e : TypeId} {k : Nat} {v : Value} {d : DataW H} {p : List MemPlace} (ht : Tryz.prog.underlying t = some (.slice e)) (hC : Tryz.prog.cellsOf e = k) (hk : 0 < k)
    (helem : ∀ (n : Nat) (cs : List Value) (y : DataW H × List MemPlace), DataW.trod enc Tryz.prog w base spare held n e cs = some y → ∃ row : List Int, row.length = k ∧ cs = row.map (Value.int .i64) ∧ ∀ x ∈ row, -9223372036854775808 ≤ x ∧ x ≤ 9223372036854775807)
    (hv : Value.okWide Tryz.prog w r b0 t v) (h : DataW.Trod enc Tryz.prog w base spare held t v d p) : ∃ l, ArgRows w k v l :=
  open_rows' ht hC hk helem (okWide_slice (P := Tryz.prog) ht hv) h
theorem struct_ints {e : TypeId} {fs : Array Field} {k : Nat} (hu : Tryz.prog.underlying e = some (.struct fs)) (hone : oneCellFields Tryz.prog fs = true) (hints : ∀ (i : Nat) (f : Field), fs[i]? = some f → f.type = 3) (hC : Tryz.prog.cellsOf e = k) (hfs : fs.size = k) :
    ∀ (n : Nat) (cs : List Value) (y : DataW H × List MemPlace), DataW.trod enc Tryz.prog w base spare held n e cs = some y → ∃ row : List Int, row.length = k ∧ cs = row.map (Value.int .i64) ∧ ∀ x ∈ row, -9223372036854775808 ≤ x ∧ x ≤ 9223372036854775807 := by
  intro n cs y h
  obtain ⟨xs, n', _, hx, hlen, hxl, hg⟩ := DataW.trod_struct hu h
  have hcell : ∀ i, i < k → ∃ x : Int, cs[i]? = some (.int .i64 x) ∧ -9223372036854775808 ≤ x ∧ x ≤ 9223372036854775807 := by
    intro i hi
    have hf : fs[i]? = some (fs[i]'(by omega)) := Array.getElem?_eq_getElem _
    obtain ⟨ho, hk1⟩ := hone_of hone i _ hf
    have h1 := hg i _ hf
    rw [ho, hk1, hints i _ hf] at h1
    have hv : cs[i]? = some (cs[i]'(by omega)) := List.getElem?_eq_getElem (by omega)
    have hone' : (cs.drop i).take 1 = [cs[i]'(by omega)] := by
      rw [List.drop_eq_getElem_cons (by omega)]; rfl
    rw [hone'] at h1
    have hys : xs[i]? = some (xs[i]'(by omega)) := List.getElem?_eq_getElem (by omega)
    obtain ⟨x, hc, _, wf⟩ := DataW.trod_int Tryz.underlying3 (h1.trans hys)
    have hc' : cs[i]'(by omega) = .int .i64 x := by simpa using hc
    exact ⟨x, by rw [hv, hc'], bounds_i64 wf⟩
  refine ⟨(List.range k).map fun i => if h : i < k then Classical.choose (hcell i h) else 0, by simp, ?_, ?_⟩
  · apply List.ext_getElem?
    intro i
    rcases Nat.lt_or_ge i k with hi | hi
    · have := (Classical.choose_spec (hcell i hi)).1
      rw [this]
      simp [hi]
    · rw [List.getElem?_eq_none (by omega), List.getElem?_eq_none (by simpa using hi)]
  · intro x hx'
    simp only [List.mem_map, List.mem_range] at hx'
    obtain ⟨i, hi, rfl⟩ := hx'
    simp only [dif_pos hi]
    exact (Classical.choose_spec (hcell i hi)).2
end
end Go.Proofs.YtidonhndeohdlaaGreatDoor
