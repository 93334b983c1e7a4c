/- The walk of StableWindow. -/
import Derived.Test.YtgkbdoecpbepbaaStbH
import Derived.Test.YtgkbdoecpbepbaaRestC
import Derived.Deep.DeepCutAuto
import Derived.Deep.CutBlock
namespace Tide
open Go
/-- a wish -/
structure Wsh where
  now : Int
  have0 : Int
  want : Int
def Wsh.enc (p : Wsh) : List Value := [.int .i64 p.now, .int .i64 p.have0, .int .i64 p.want]
theorem Wsh.enc_length (p : Wsh) : p.enc.length = 3 := rfl
def Wsh.mark (p : Wsh) : Mark := (p.now, p.want)
end Tide
namespace Go.Proofs.Ytgkbdoecpbepbaa
open Go.RowKit
set_option linter.unusedVariables false
theorem wish_info : (Try.prog.info? 59).map (fun i => (i.zero, i.size, i.bytes)) = some (some (.agg #[.int .i64 0, .int .i64 0, .int .i64 0]), 3, 24) := by kernel_rfl
/-- a list of wishes of one's own, beside what lies in S -/
structure WishesAt (w0 w : World) (S S2 : Nat → Prop) (o : Value) (q : List Tide.Wsh) : Prop where
  row : Tide.OwnRow S2 w 59 3 o q.length (q.flatMap Tide.Wsh.enc)
  own : ∀ b, S2 b → w0.heap.size ≤ b ∧ b < w.heap.size
  dis : ∀ b, S b → ¬ S2 b
section
variable {w0 w w1 : World} {S S2 : Nat → Prop} {o : Value} {q : List Tide.Wsh}
theorem WishesAt.nil (w0 w : World) (S : Nat → Prop) : WishesAt w0 w S (fun _ => False) (.slice none 0 0) [] := ⟨Tide.OwnRow.nil _ _ _ _, fun _ h => h.elim, fun _ _ h => h⟩
/-- what lies in S is written -/
theorem WishesAt.beside (h : WishesAt w0 w S S2 o q) (hc : Tide.Chg S w w1) : WishesAt w0 w1 (Tide.Plus S w w1) S2 o q :=
  ⟨h.row.chg hc (fun b h2 h1 => h.dis b h1 h2), fun b hb => ⟨(h.own b hb).1, Nat.lt_of_lt_of_le (h.own b hb).2 hc.size⟩, fun b h1 h2 => by
    rcases h1 with h1 | h1
    · exact h.dis b h1 h2
    · have := h.own b h2; omega⟩
theorem WishesAt.below (h : WishesAt w0 w S S2 o q) (hb : Below w.heap.size w w1) : WishesAt w0 w1 S S2 o q :=
  ⟨h.row.below hb (Nat.le_refl _), fun b hb' => ⟨(h.own b hb').1, Nat.lt_of_lt_of_le (h.own b hb').2 hb.size⟩, h.dis⟩
theorem WishesAt.alloc (h : WishesAt w0 w S S2 o q) (x : Obj) : WishesAt w0 (w.alloc x) S S2 o q := h.below ((Below.refl _ _).alloc (Nat.le_refl _) x)
theorem WishesAt.wish (h : WishesAt w0 w S S2 o q) {k : Nat} {p : Tide.Wsh} (hp : q[k]? = some p) :
    ∃ b cap, o = .slice (some ⟨b, 0, none⟩) q.length cap ∧ b < w.heap.size ∧ w.cell? ⟨b, k * 3, none⟩ = some (.int .i64 p.now) ∧ w.cell? ⟨b, k * 3 + 1, none⟩ = some (.int .i64 p.have0) ∧ w.cell? ⟨b, k * 3 + 2, none⟩ = some (.int .i64 p.want) := by
  obtain ⟨b, cap, e, hS, h1, h2, h3⟩ := h.row.form (by have := Tide.get_lt hp; omega)
  exact ⟨b, cap, e, h3.inside, h3.cell (Tide.flat_get (j := 0) Tide.Wsh.enc_length hp rfl), h3.cell (Tide.flat_get (j := 1) Tide.Wsh.enc_length hp rfl), h3.cell (Tide.flat_get (j := 2) Tide.Wsh.enc_length hp rfl)⟩
theorem WishesAt.app {r : Tide.Wsh} {ob : Obj} {w3 : World} {b2 cap2 : Nat} (h : WishesAt w0 w S S2 o q) (hS : ∀ b, S b → b < w.heap.size) (h0 : w0.heap.size ≤ w.heap.size)
    (h1 : w3.ownsRow 0 59 3 (.slice (some ⟨b2, 0, none⟩) (q.length + 1) cap2) (q.length + 1) (q.flatMap Tide.Wsh.enc ++ r.enc)) (hg : (w.alloc ob).grownBy w3 o.ownBlock) (ho : o.ownBlock = some b2 ∨ b2 = w.heap.size + 1) (hlt : b2 < w3.heap.size) :
    WishesAt w0 w3 S (Tide.Plus S2 w w3) (.slice (some ⟨b2, 0, none⟩) (q.length + 1) cap2) (q ++ [r]) ∧ Tide.Chg S2 w w3 := by
  have z : (w.alloc ob).heap.size = w.heap.size + 1 := by simp
  obtain ⟨r1, r2⟩ := (h.row.alloc ob).app h1 hg (ho.imp id (fun e => by rw [e, z])) hlt
  have z2 := r2.size
  have hc : Tide.Chg S2 w w3 := ((Tide.Chg.refl S2 w).alloc ob).trans r2
  refine ⟨⟨?_, fun b hb => ?_, fun b hb h2 => ?_⟩, hc⟩
  · rw [List.length_append, List.flatMap_append, List.flatMap_singleton]
    refine r1.mono fun b _ hb => ?_
    rcases hb with hb | hb
    · exact .inl hb
    · exact .inr ⟨by omega, hb.2⟩
  · rcases hb with hb | hb
    · have := h.own b hb; omega
    · omega
  · rcases h2 with h2 | h2
    · exact h.dis b hb h2
    · have := hS b hb; omega
end
/-- at the head of StableWindow's loop -/
structure WinRun (w0 wr : World) (g : Nat) (wi : Int) (j : Nat) (o : Value) (S S2 : Nat → Prop) (s : Tide.Stb) (vw vm : Value) (q : List Tide.Wsh) : Prop where
  stb : StbAt 94 101 S wr g s vw vm
  solo : Solo w0 wr S
  was : WishesAt w0 wr S S2 o q
  ok : s.ok j
  win : Tide.Windowed wi s
  told : s.wanted = q.map Tide.Wsh.mark
  len : q.length ≤ j
def WinAt (w0 wr : World) (g : Nat) (wi : Int) (j : Nat) (o : Value) : Prop := ∃ S S2 s vw vm q, WinRun w0 wr g wi j o S S2 s vw vm q
set_option maxRecDepth 100000 in
set_option maxHeartbeats 12800000 in
theorem stableWindow_walk (n : Int) (hwf0 : (Lit.int .i64 n).wf = true) (v : Value) (l : List (List Int)) (w : World) (hl : ArgRows w 3 v l) :
    Calls Try.prog 9 #[.int .i64 n, v] w fun e w' => e = .returned (.bool true) ∧ Below w.heap.size w w' := by
  obtain ⟨A, cap, rfl, hcap, hmax, hrows, hA⟩ := hl
  have HA := Lib.hid hA; have HR := Lib.hid hrows
  have hmx : cap ≤ 9223372036854775807 := hmax
  obtain ⟨i0, hi, hz0, hz1, hz2⟩ := info_parts wish_info
  clear hA hrows hmax hwf0
  go_enter Try.func9, Try.ntmps9
  go_wp2_with fail
  refine (stbSlow _).mono ?_
  rintro e w1 ⟨rfl, hb1⟩
  have HB1 := Lib.hid hb1
  clear hb1
  go_wp2_with fail
  refine (restC n 50 _ (by decide) (by decide)).mono ?_
  rintro e wz ⟨rfl, rfl⟩
  obtain ⟨wi, hwi, hw0, hw1⟩ : ∃ wi, Hid (n % 50 = wi) ∧ 0 ≤ wi ∧ wi ≤ 49 := ⟨_, Lib.hid rfl, by omega, by omega⟩
  rw [hwi.out]
  go_wp2_with fail
  refine (stbNew ⟨wi, 0, 0, 0⟩ ⟨wi, 0, 0, 0⟩ _).mono ?_
  rintro e w2 ⟨g, rfl, h2, hb2⟩
  have hS := Lib.hid (show WinAt w w2 g wi 0 (.slice none 0 0) from ⟨_, _, _, _, _, [], h2, ⟨fun b hb => by rcases hb with hb | hb; exact hb.elim; exact Nat.le_trans HB1.out.size hb.1, HB1.out.trans (hb2.mono HB1.out.size)⟩, WishesAt.nil _ _ _, newStb_ok _ _, ⟨by show Tide.clipT wi = wi; unfold Tide.clipT; omega, by show Tide.clipT wi = wi; unfold Tide.clipT; omega, by show Tide.Pace.limited ⟨Tide.clipT wi, Tide.clipT 0, Tide.clipT 0, Tide.clipT 0⟩ = false; rfl, by show Tide.Pace.limited ⟨Tide.clipT wi, Tide.clipT 0, Tide.clipT 0, Tide.clipT 0⟩ = false; rfl⟩, rfl, Nat.le_refl _⟩)
  clear h2 hb2 hwi
  go_upto_region 6 with fail
  go_cut [27, 28, 29] (fun s27 s28 s29 wx => ∃ m : Nat, m ≤ 100 ∧ m ≤ l.length ∧ s27 = .slice A m cap ∧ s28 = .int .i64 m ∧ s29 = .int .i64 0 ∧ wx = w2)
  case first =>
    have hcases : (100 : Int) < l.length ∨ (l.length : Int) = 100 ∨ (l.length : Int) < 100 := by omega
    rcases hcases with hlen | hlen | hlen
    · go_wp2_with fail
      go_meet
      exact ⟨100, by omega, by omega, by rfl, rfl, rfl, rfl⟩
    · have hq : (100 : Int) ≤ (l.length : Int) := by omega
      have hq2 : (l.length : Int) ≤ 100 := by omega
      go_wp2_with fail
      go_meet
      exact ⟨100, by omega, by omega, by rfl, rfl, rfl, rfl⟩
    · go_wp2_with fail
      go_meet
      exact ⟨l.length, by omega, by omega, by rfl, rfl, rfl, rfl⟩
  case rest =>
  obtain ⟨m, hm100, hml, rfl, rfl, rfl, rfl⟩ := hcut
  go_wp2_with fail
  go_loopw [7, 29] (fun o i wr => ∃ j : Nat, i = .int .i64 j ∧ j ≤ m ∧ Hid (WinAt w wr g wi j o)) (fun _ i _ => m - (intOf i).toNat)
  case atStart => exact ⟨0, rfl, by omega, hS⟩
  case round =>
    clear hS
    obtain ⟨j, rfl, hj, HW0⟩ := hrel
    obtain ⟨S, S2, s, vw, vm, q, hW⟩ := HW0.out
    have HW := Lib.hid hW
    have hmm : (m : Int) ≤ 100 := by omega
    clear HW0
    by_cases hlt : j < m
    · obtain ⟨b, off, x, y, z, rfl, hx, hy, hz⟩ := wish_row HA.out HR.out hW.solo.below (show j < l.length by omega)
      have hj0 : (0 : Int) ≤ (j : Int) := by omega
      have hj1 : (j : Int) < (m : Int) := by omega
      have HX := Lib.hid (Tide.At.made wr 59 #[.int .i64 x, .int .i64 y, .int .i64 z])
      have HL := Lib.hid hW.stb.lim
      clear hW
      go_wp2_with fail
      refine (stbSettle S g s vw vm x y z _ j (HW.out.stb.alloc _) HW.out.ok (by omega)).mono ?_
      rintro e w3 ⟨rfl, ⟨vw3, vm3, h3⟩, c3⟩
      have HX3 := Lib.hid (HX.out.chg c3 (fun hS => Nat.lt_irrefl _ (HL.out _ hS)))
      have HA3 := Lib.hid ((HW.out.was.alloc (.cells #[.int .i64 x, .int .i64 y, .int .i64 z] 59)).beside c3)
      have HO3 := Lib.hid ((HW.out.solo.alloc (.cells #[.int .i64 x, .int .i64 y, .int .i64 z] 59)).next c3)
      have HS3 := Lib.hid h3
      clear hx hy hz h3 c3 HX HL
      cases hk : Tide.settleOk s x y z
      · have e1 : Tide.settleN s x y z = 0 := by unfold Tide.settleN; rw [hk]; rfl
        have e2 : Tide.settleE s x y z = 1 := by unfold Tide.settleE; rw [hk]; rfl
        have HN := Lib.hid (show WinAt w w3 g wi (j + 1) _ from ⟨_, _, _, _, _, q, HS3.out, HO3.out, HA3.out, settle_ok HW.out.ok, Tide.windowed_next HW.out.win, by rw [Tide.seen_not hk]; exact HW.out.told, by have := HW.out.len; omega⟩)
        rw [e1, e2]
        clear hk e1 e2
        go_wp2_with fail
        go_roundw
        case rel => exact ⟨j + 1, by go_num, by omega, HN⟩
        case measure => simp [intOf]; omega
      · have e2 : Tide.settleE s x y z = 0 := by unfold Tide.settleE; rw [hk]; rfl
        have HSay := Lib.hid (window_says HW.out.ok HW.out.win hk)
        have HXb := Lib.hid (show 0 ≤ x ∧ x ≤ 1099511627776 by
          have h0 := HW.out.ok.last0
          unfold Tide.settleOk at hk
          simp only [Bool.and_eq_true, decide_eq_true_eq] at hk
          omega)
        have HTold := Lib.hid (show (Tide.settleS s x y z).wanted = (q ++ [(⟨x, y, z⟩ : Tide.Wsh)]).map Tide.Wsh.mark by rw [Tide.seen_wanted hk, HW.out.told, List.map_append]; rfl)
        have HOk := Lib.hid (settle_ok (now := x) (have0 := y) (want := z) HW.out.ok)
        have HWi := Lib.hid (Tide.windowed_next (now := x) (have0 := y) (want := z) HW.out.win)
        have HTq := Lib.hid HW.out.told; have HLq := Lib.hid HW.out.len
        rw [e2]
        generalize Tide.settleS s x y z = s3 at HS3 HTold HOk HWi ⊢
        generalize Tide.settleN s x y z = n' at HSay ⊢
        obtain ⟨A7, c7, rfl, _, _, _⟩ := HA3.out.row.slice
        clear hk e2 HW
        go_wp2_with fail
        generalize wr.heap.size = bx at HX3 ⊢
        go_loopw [48] (fun i wr => ∃ k : Nat, k ≤ q.length ∧ i = .int .i64 k ∧ Hid (Below w3.heap.size w3 wr)) (fun i _ => q.length - (intOf i).toNat)
        case atStart => exact ⟨0, by omega, rfl, Lib.hid (Below.refl _ _)⟩
        case round =>
          obtain ⟨k, hk, rfl, HB⟩ := hrel
          have HXr := Lib.hid (HX3.out.below HB.out HX3.out.inside)
          have hq100 : (q.length : Int) ≤ 100 := by have := HLq.out; omega
          by_cases hkq : k < q.length
          · obtain ⟨p, hp⟩ := Tide.get_some q hkq
            obtain ⟨b3, cap3, e, hbl, d0, d1, d2⟩ := (HA3.out.below HB.out).wish hp
            cases e
            have k0 : (0 : Int) ≤ (k : Int) := by omega
            have k1 : (k : Int) < (q.length : Int) := by omega
            have hx0 := HXb.out.1; have hx1 := HXb.out.2
            have hw : IntKind.i64.wrap (x - wi) = x - wi := IntWalk.i64_in _ (by omega)
            have HBn := Lib.hid (HB.out.alloc HB.out.size (.cells #[.int .i64 p.now, .int .i64 p.have0, .int .i64 p.want] 59))
            have HXn := Lib.hid (HXr.out.alloc (.cells #[.int .i64 p.now, .int .i64 p.have0, .int .i64 p.want] 59))
            have x0 := HXn.out.here (i := 0) rfl; have x1 := HXn.out.here (i := 1) rfl
            by_cases g1 : x - wi < p.now
            · obtain ⟨n1, n2⟩ := HSay.out p.mark (by rw [HTq.out]; exact List.mem_map_of_mem (List.mem_of_getElem? hp)) g1
              have n1' : ¬ (n' < y ∧ n' < p.want) := n1
              have n2' : ¬ (y < n' ∧ p.want < n') := n2
              clear n1 n2 hp
              by_cases a1 : n' < y
              · have a2 : p.want ≤ n' := by omega
                have a3 : n' ≤ y := by omega
                clear n1' n2'
                go_wp2_with fail
                go_roundw
                case rel => exact ⟨k + 1, by omega, by go_num, HBn⟩
                case measure => simp [intOf]; omega
              · have a3 : y ≤ n' := by omega
                by_cases a4 : y < n'
                · have a5 : n' ≤ p.want := by omega
                  clear n1' n2' a1
                  go_wp2_with fail
                  go_roundw
                  case rel => exact ⟨k + 1, by omega, by go_num, HBn⟩
                  case measure => simp [intOf]; omega
                · have a6 : n' ≤ y := by omega
                  clear n1' n2' a1 a4
                  go_wp2_with fail
                  go_roundw
                  case rel => exact ⟨k + 1, by omega, by go_num, HBn⟩
                  case measure => simp [intOf]; omega
            · have g1' : p.now ≤ x - wi := by omega
              clear hp g1
              go_wp2_with fail
              go_roundw
              case rel => exact ⟨k + 1, by omega, by go_num, HBn⟩
              case measure => simp [intOf]; omega
          · have HAr := Lib.hid (HA3.out.below HB.out)
            have x0 := HXr.out.here (i := 0) rfl; have x1 := HXr.out.here (i := 1) rfl; have x2 := HXr.out.here (i := 2) rfl
            have hm3 := Lib.hid (show q.length + 1 ≤ maxLen by simp only [maxLen]; omega)
            have hm4 := Lib.hid (show (q.length + 1) * 24 ≤ 140737488355328 by omega)
            go_wp2_with (at_builtin; refine wpList_append_lies _ (by rfl) (.tmp 84) (.tmp 86) 53 (by rfl) 0 59 i0 (.agg #[.int .i64 0, .int .i64 0, .int .i64 0]) 3 24 Try.underlying53 hi hz0 hz1 hz2 rfl (by decide) (.slice A7 q.length c7) _ _ rfl (HAr.out.row.alloc _).owns ⟨wr.heap.size, 0, none⟩ 1 1 [.int .i64 x, .int .i64 y, .int .i64 z] rfl rfl (new_cells_in rfl) (by simp [Value.oneCell']) (by decide) hm3.out hm4.out (Nat.zero_le _) _ rfl ?_)
            intro b2 cap2 w5 hown hg ho hlt2
            obtain ⟨HA5, hc5⟩ := HAr.out.app (r := ⟨x, y, z⟩) (fun b hb => (HS3.out.below HB.out).lim b hb) ((HO3.out.below_ HB.out).below.size) hown hg (ho.imp id (fun e => e.trans (by simp))) hlt2
            have HN := Lib.hid (show WinAt w w5 g wi (j + 1) (.slice (some ⟨b2, 0, none⟩) (q.length + 1) cap2) from ⟨_, _, _, _, _, q ++ [⟨x, y, z⟩], (HS3.out.below HB.out).chg hc5 (fun b h1 h2 => HAr.out.dis b h1 h2), ⟨HO3.out.own, (HO3.out.below_ HB.out).below.trans (hc5.below (HO3.out.below_ HB.out).below.size (fun b hb h2 => by have := (HAr.out.own b h2).1; omega))⟩, HA5, HOk.out, HWi.out, HTold.out, by have := HLq.out; simp; omega⟩)
            clear hown hg ho hlt2 HA5 hc5 x0 x1 x2
            go_wp2_with fail
            go_roundw
            case rel => exact ⟨j + 1, by go_num, by omega, HN⟩
            case measure => simp [intOf]; omega
    · have HF := Lib.hid hW.solo.below
      clear hW HW
      go_wp2_with fail
      go_ret
      exact ⟨rfl, HF.out⟩
end Go.Proofs.Ytgkbdoecpbepbaa
