/- The walk of TopicSums. -/
import Derived.Test.YtgkbdoecpbepbaaTopL
import Derived.Test.YtgkbdoecpbepbaaOpenInts
import Derived.Test.YtgkbdoecpbepbaaRow
import Derived.Deep.DeepCutAuto
import Derived.Deep.CutBlock
import Derived.Deep.LoopGhost
namespace Go.Proofs.Ytgkbdoecpbepbaa
open Go.RowKit
set_option linter.unusedVariables false

/-- the topic and the two tallies at the loop's head -/
structure Sums (w0 w : World) (j n g p bm bt : Nat) (l : List (Int × Int)) : Prop where
  topic : TopicAt w g p l
  made : Tide.At w bm 3 (l.map fun x => Value.int .i64 x.1).toArray
  took : Tide.At w bt 3 (l.map fun x => Value.int .i64 x.2).toArray
  small : Small l
  cap : ∀ q ∈ l, q.1 ≤ 100000 * j
  len : l.length = n
  below : Below w0.heap.size w0 w
  own : w0.heap.size ≤ g ∧ w0.heap.size ≤ p ∧ w0.heap.size ≤ bm ∧ w0.heap.size ≤ bt
  apart : p ≠ bm ∧ p ≠ bt ∧ g ≠ bm ∧ g ≠ bt ∧ bm ≠ bt

theorem sums_make (m : Nat) (h : (m : Int) ≤ 20) : ∀ W : World, (Instr.makeSlice 29 (.int .i64 (m : Int)) (.int .i64 (m : Int))).run Try.prog W = .ok (.slice (some ⟨W.heap.size, 0, none⟩) m m) (W.alloc (.cells (List.replicate m (Value.int .i64 0)).toArray 3)) := fun W => by
  obtain ⟨i0, hi, hz0, hz1, hz2⟩ := info_parts info_int
  have := run_make (P := Try.prog) W 29 3 i0 _ Try.underlying29 hi hz0 .i64 .i64 m m (by omega) (by omega) (by rw [hz2]; omega) (by omega)
  rw [Int.toNat_natCast, hz1] at this
  rw [this, Nat.mul_one]
  have e : madeCells #[.int .i64 0] m = (List.replicate m (Value.int .i64 0)).toArray := by
    unfold madeCells
    apply Array.ext
    · simp
    · intro i h1 h2
      simp [Nat.mod_one]
  rw [← e]
  rfl
theorem sums_start {w w1 : World} {m g p : Nat} {C : Array Value} (ht : TopicAt w1 g p (List.replicate m (0, 0))) (hb : Below w.heap.size w w1) (hg : w.heap.size ≤ g) (hp : w.heap.size ≤ p) (hm : m ≤ 20) (hC : (List.replicate m (Value.int .i64 0)).toArray = C) :
    Sums w (((w1.alloc (.cells C 3)).alloc (.cells C 3)).drew) 0 m g p w1.heap.size (w1.heap.size + 1) (List.replicate m (0, 0)) ∧
    Sums w (((w1.alloc (.cells C 3)).alloc (.cells C 3)).drew) 0 m g p (w1.heap.size + 1) w1.heap.size (List.replicate m (0, 0)) := by
  have h1 := ((Tide.At.made w1 3 C).alloc (.cells C 3)).drew
  have h2 := (Tide.At.made (w1.alloc (.cells C 3)) 3 C).drew
  simp only [World.size_alloc] at h2
  have hgl := ht.head.inside; have hpl := ht.parts.inside
  have hsz := hb.size
  have htt : TopicAt (((w1.alloc (.cells C 3)).alloc (.cells C 3)).drew) g p (List.replicate m (0, 0)) := ⟨((ht.head.alloc _).alloc _).drew, ((ht.parts.alloc _).alloc _).drew, ht.small⟩
  have hs : Small (List.replicate m (0, 0)) := fun p hp => by have := (List.mem_replicate.1 hp).2; subst this; simp
  have hcap : ∀ q ∈ List.replicate m ((0 : Int), (0 : Int)), q.1 ≤ 100000 * ((0 : Nat) : Int) := fun q hq => by have := (List.mem_replicate.1 hq).2; subst this; simp
  have hbb : Below w.heap.size w (((w1.alloc (.cells C 3)).alloc (.cells C 3)).drew) := ((hb.alloc hsz _).alloc (by simp; omega) _).drew
  exact ⟨⟨htt, by rw [List.map_replicate, hC]; exact h1, by rw [List.map_replicate, hC]; exact h2, hs, hcap, by simp, hbb, ⟨hg, hp, by omega, by omega⟩, ⟨by omega, by omega, by omega, by omega, by omega⟩⟩,
    ⟨htt, by rw [List.map_replicate, hC]; exact h2, by rw [List.map_replicate, hC]; exact h1, hs, hcap, by simp, hbb, ⟨hg, hp, by omega, by omega⟩, ⟨by omega, by omega, by omega, by omega, by omega⟩⟩⟩
theorem Sums.next {w0 w : World} {j n g p bm bt : Nat} {l : List (Int × Int)} (h : Sums w0 w j n g p bm bt l) : Sums w0 w (j + 1) n g p bm bt l :=
  ⟨h.topic, h.made, h.took, h.small, fun q hq => by have := h.cap q hq; omega, h.len, h.below, h.own, h.apart⟩
theorem Sums.cells {w0 w : World} {j n g p bm bt : Nat} {l : List (Int × Int)} (h : Sums w0 w j n g p bm bt l) {k : Nat} {e o : Int} (hn : l[k]? = some (e, o)) :
    w.cell? ⟨bm, k, none⟩ = some (.int .i64 e) ∧ w.cell? ⟨bt, k, none⟩ = some (.int .i64 o) ∧ w.frozen? ⟨bm, k, none⟩ = false ∧ w.frozen? ⟨bt, k, none⟩ = false ∧ 0 ≤ o ∧ o ≤ e ∧ e ≤ 100000 * j := by
  have hm := h.small _ (List.mem_of_getElem? hn)
  have hc := h.cap _ (List.mem_of_getElem? hn)
  exact ⟨h.made.here (by simp [hn]), h.took.here (by simp [hn]), h.made.soft _, h.took.soft _, hm.1, hm.2.1, hc⟩
/-- the tallies lie as they did behind a call of the topic -/
theorem Sums.after {w0 w w1 : World} {j n g p bm bt : Nat} {l : List (Int × Int)} (h : Sums w0 w j n g p bm bt l) {k : Nat} {e o : Int} (hn : l[k]? = some (e, o)) (hc : Tide.Chg (· = p) w w1) :
    w1.cell? ⟨bm, k, none⟩ = some (.int .i64 e) ∧ w1.cell? ⟨bt, k, none⟩ = some (.int .i64 o) ∧ w1.frozen? ⟨bm, k, none⟩ = false ∧ w1.frozen? ⟨bt, k, none⟩ = false := by
  have h1 := h.made.chg hc (Ne.symm h.apart.1)
  have h2 := h.took.chg hc (Ne.symm h.apart.2.1)
  exact ⟨h1.here (by simp [hn]), h2.here (by simp [hn]), h1.soft _, h2.soft _⟩
theorem Sums.makes {w0 w w1 : World} {j n g p bm bt : Nat} {l : List (Int × Int)} (h : Sums w0 w j n g p bm bt l) {k : Nat} {e o x : Int} (hn : l[k]? = some (e, o)) (x0 : 1 ≤ x) (x1 : x ≤ 100000) (hj : j ≤ 100) (ht : TopicAt w1 g p (l.set k (Tide.addc e x, o))) (hc : Tide.Chg (· = p) w w1) :
    Sums w0 (w1.setCell ⟨bm, k, none⟩ (.int .i64 (e + x))) (j + 1) n g p bm bt (l.set k (e + x, o)) := by
  obtain ⟨o1, o2, o3, o4⟩ := h.own
  obtain ⟨a1, a2, a3, a4, a5⟩ := h.apart
  have hm := h.small _ (List.mem_of_getElem? hn)
  have hcp := h.cap _ (List.mem_of_getElem? hn)
  simp only at hm hcp
  have e1 : Tide.addc e x = e + x := by
    rw [addc_eq (by omega) (by omega) x0 x1, Tide.clip_id (by omega) (by omega)]
  rw [e1] at ht
  have s1 := (map_set1 l k e o (e + x) hn)
  refine ⟨⟨ht.head.other (by show g ≠ bm; omega) _, ht.parts.other (by show p ≠ bm; omega) _, ht.small⟩, ?_, ?_, ?_, ?_, by rw [List.length_set]; exact h.len, ?_, h.own, h.apart⟩
  · have := (h.made.chg hc (Ne.symm a1)).put k (.int .i64 (e + x))
    rw [← s1.1]; simpa using this
  · have := (h.took.chg hc (Ne.symm a2)).other (p := ⟨bm, k, none⟩) (Ne.symm a5) (.int .i64 (e + x))
    rw [← s1.2]; exact this
  · intro q hq
    rcases List.mem_or_eq_of_mem_set hq with h1 | h1
    · exact h.small q h1
    · subst h1; simp only; omega
  · intro q hq
    rcases List.mem_or_eq_of_mem_set hq with h1 | h1
    · have := h.cap q h1; omega
    · subst h1; simp only; omega
  · exact (h.below.trans (hc.below h.below.size (fun k hk => by omega))).setCell (p := ⟨bm, k, none⟩) o3 _
theorem Sums.takes {w0 w w1 : World} {j n g p bm bt : Nat} {l : List (Int × Int)} (h : Sums w0 w j n g p bm bt l) {k : Nat} {e o x : Int} (hn : l[k]? = some (e, o)) (x0 : o ≤ x) (x1 : x ≤ e) (ht : TopicAt w1 g p (l.set k (e, x))) (hc : Tide.Chg (· = p) w w1) :
    Sums w0 (w1.setCell ⟨bt, k, none⟩ (.int .i64 x)) (j + 1) n g p bm bt (l.set k (e, x)) := by
  obtain ⟨o1, o2, o3, o4⟩ := h.own
  obtain ⟨a1, a2, a3, a4, a5⟩ := h.apart
  have hm := h.small _ (List.mem_of_getElem? hn)
  have hcp := h.cap _ (List.mem_of_getElem? hn)
  simp only at hm hcp
  have s1 := (map_set2 l k e o x hn)
  refine ⟨⟨ht.head.other (by show g ≠ bt; omega) _, ht.parts.other (by show p ≠ bt; omega) _, ht.small⟩, ?_, ?_, ?_, ?_, by rw [List.length_set]; exact h.len, ?_, h.own, h.apart⟩
  · have := (h.made.chg hc (Ne.symm a1)).other (p := ⟨bt, k, none⟩) a5 (.int .i64 x)
    rw [← s1.2]; exact this
  · have := (h.took.chg hc (Ne.symm a2)).put k (.int .i64 x)
    rw [← s1.1]; simpa using this
  · intro q hq
    rcases List.mem_or_eq_of_mem_set hq with h1 | h1
    · exact h.small q h1
    · subst h1; simp only; omega
  · intro q hq
    rcases List.mem_or_eq_of_mem_set hq with h1 | h1
    · have := h.cap q h1; omega
    · subst h1; simp only; omega
  · exact (h.below.trans (hc.below h.below.size (fun k hk => by omega))).setCell (p := ⟨bt, k, none⟩) o4 _
theorem Sums.same {w0 w w1 : World} {j n g p bm bt : Nat} {l : List (Int × Int)} (h : Sums w0 w j n g p bm bt l) (hc : Tide.Chg (fun _ => False) w w1) : Sums w0 w1 j n g p bm bt l :=
  ⟨h.topic.chg hc (fun h => h) (fun h => h), h.made.chg hc (fun h => h), h.took.chg hc (fun h => h), h.small, h.cap, h.len, h.below.trans (hc.below h.below.size (fun k hk h => h)), h.own, h.apart⟩

theorem two_in (w : World) (a b : Int) : IntsIn (w.alloc (.cells #[.int .i64 a, .int .i64 b] 3)) (.slice (some ⟨w.heap.size, 0, none⟩) 2 2) [a, b] := by
  have h := Tide.At.made w 3 #[.int .i64 a, .int .i64 b]
  refine ⟨_, 2, rfl, fun _ => ⟨w.heap.size, 0, rfl, by simp, fun i x hx => ?_⟩⟩
  match i, hx with
  | 0, hx => cases hx; exact h.here rfl
  | 1, hx => cases hx; exact h.here rfl

set_option maxRecDepth 100000 in
set_option maxHeartbeats 6400000 in
theorem topicSums_walk (n : Int) (wn : (Lit.int .i64 n).wf = true) (v : Value) (l : List (List Int)) (w : World) (hl : ArgRows w 1 v l) :
    Calls Try.prog 4 #[.int .i64 n, v] w fun e w' => e = .returned (.bool true) ∧ Below w.heap.size w w' := by
  obtain ⟨A, cap, rfl, hcap, hmax, hrows, hA⟩ := hl
  have HA := Lib.hid hA
  have HR := Lib.hid hrows
  clear hA hrows hcap hmax
  go_enter Try.func4, Try.ntmps4
  go_wp2_with fail
  refine (topNew 2 (by omega) (by omega) _).mono ?_
  rintro e w1 ⟨g, p, rfl, ht, hg, hp, hb⟩
  have hs1 : Small (List.replicate 2 (0, 0)) := by unfold Small; decide
  go_wp2_with fail
  refine (topMake_any g p _ 1 5 _ ht hs1).mono ?_
  rintro e w2 ⟨rfl, ht2, hc2⟩
  have e2 : makeErr (List.replicate 2 (0, 0)) 1 5 = 0 := by decide
  rw [e2]
  have l2 : makeLst (List.replicate 2 (0, 0)) 1 5 = [(0, 0), (5, 0)] := by decide
  rw [l2] at ht2
  clear ht hs1 e2 l2
  go_wp2_with fail
  refine (topTake_any g p _ 1 3 _ ht2).mono ?_
  rintro e w3 ⟨rfl, ht3, hc3⟩
  have e3 : takeErr [(0, 0), (5, 0)] 1 3 = 0 := by decide
  rw [e3]
  have l3 : takeLst [(0, 0), (5, 0)] 1 3 = [(0, 0), (5, 3)] := by decide
  rw [l3] at ht3
  clear ht2 e3 l3
  go_wp2_with fail
  refine (topLags g p _ _ ht3 (by unfold Small; decide)).mono ?_
  rintro e w4 ⟨v4, rfl, ho4, hb4⟩
  have hl4 : lagsOf [(0, 0), (5, 3)] = [0, 2] := by decide
  rw [hl4] at ho4
  have hi4 := ho4.in_
  have hb14 : Below w.heap.size w w4 := (hb.trans (hc2.below hb.size (fun k hk => by omega))).trans ((hc3.below (Nat.le_trans hb.size hc2.size) (fun k hk => by omega)).trans (hb4.mono (Nat.le_trans hb.size (Nat.le_trans hc2.size hc3.size))))
  clear hc2 hc3 hb4 ho4 hl4 ht3 hb hg hp
  go_wp2_with fail
  refine (equal_ints _ _ [0, 2] _ (hi4.below ((Below.refl _ _).alloc (Nat.le_refl _) _) (Nat.le_refl _)) (two_in w4 0 2) (by decide)).mono ?_
  rintro e w5 ⟨rfl, hc5⟩
  have hb5 : Below w.heap.size w w5 := (hb14.alloc hb14.size _).trans (hc5.below (Nat.le_trans hb14.size (by simp)) (fun k hk h => h))
  clear hb14 hi4 hc5
  by_cases hn : 1 ≤ n ∧ n ≤ 20
  · obtain ⟨m, rfl⟩ := Int.eq_ofNat_of_zero_le (show 0 ≤ n by omega)
    obtain ⟨n0, n1⟩ := hn
    go_wp2_with fail
    refine (topNew m (by omega) (by omega) _).mono ?_
    rintro e w6 ⟨g2, p2, rfl, ht, hg, hp, hb6⟩
    have hbt : Below w.heap.size w w6 := hb5.trans (hb6.mono hb5.size)
    have hg' : w.heap.size ≤ g2 := Nat.le_trans hb5.size hg
    have hp' : w.heap.size ≤ p2 := Nat.le_trans hb5.size hp
    clear hb5 hb6 hg hp
    by_cases hlen : 100 < l.length
    · have hbig : (100 : Int) < (l.length : Int) := by omega
      clear ht
      go_wp2_with fail
      go_ret
      exact ⟨rfl, hbt⟩
    · have hmk := sums_make m n1
      obtain ⟨C, hC⟩ : ∃ C, (List.replicate m (Value.int .i64 0)).toArray = C := ⟨_, rfl⟩
      rw [hC] at hmk
      have HC := Lib.hid hC
      have HT := Lib.hid ht
      clear hC ht
      have hlen2 : (l.length : Int) ≤ 100 := by omega
      clear hlen
      go_upto_region 7 with fail
      go_cut [7, 8] (fun s7 s8 wx => ∃ bm bt : Nat, s7 = .slice (some ⟨bm, 0, none⟩) m m ∧ s8 = .slice (some ⟨bt, 0, none⟩) m m ∧ Sums w wx 0 m g2 p2 bm bt (List.replicate m (0, 0)))
      case first =>
        go_region
        all_goals (go_wp2_with fail; go_meet; first | exact ⟨_, _, rfl, rfl, (sums_start HT.out hbt hg' hp' (by omega) HC.out).1⟩ | exact ⟨_, _, rfl, rfl, (sums_start HT.out hbt hg' hp' (by omega) HC.out).2⟩)
      case rest =>
        obtain ⟨bm, bt, rfl, rfl, hS⟩ := hcut
        clear hmk HC HT
        go_wp2_with fail
        go_loopg [61] l.length (fun k i wr => ∃ (j : Nat) (lst : List (Int × Int)), i = .int .i64 j ∧ j ≤ l.length ∧ k = l.length - j ∧ Sums w wr j m g2 p2 bm bt lst)
        case atStart => exact ⟨0, _, rfl, by omega, by omega, hS⟩
        case round =>
          clear hS
          obtain ⟨j, lst, rfl, hj, hk, hS⟩ := hrel
          by_cases hlt : j < l.length
          · obtain ⟨b, off, x, rfl, hx, hx0, hx1⟩ := round_int HA.out HR.out hS.below hlt
            have hj0 : (0 : Int) ≤ (j : Int) := by omega
            have hj1 : (j : Int) < (l.length : Int) := by omega
            obtain ⟨q, hq⟩ : ∃ q : Nat, (j : Int) % (m : Int) = (q : Int) := ⟨j % m, by simp⟩
            have hq1 : (q : Int) < (m : Int) := by rw [← hq]; exact Int.emod_lt_of_pos _ (by omega)
            have hql : q < lst.length := by rw [hS.len]; omega
            obtain ⟨⟨e, o⟩, hn⟩ := Tide.get_some lst hql
            obtain ⟨c1, c2, f1, f2, o0, o1, e1⟩ := hS.cells hn
            have HS := Lib.hid hS; have HN := Lib.hid hn; have HK := Lib.hid hk
            have hQ : (j : Int).tmod (m : Int) = (q : Int) := by rw [← hq]; exact Int.tmod_eq_emod_of_nonneg (by omega)
            clear hS hn hk hql hx0 hx1
            by_cases h3 : (j : Int) % 3 = 2
            · have h3' : ((j : Int) % 3 == 2) = true := by simp [h3]
              clear h3
              by_cases hin : o ≤ x ∧ x ≤ e
              · obtain ⟨i0, i1⟩ := hin
                go_wp2_with fail
                refine (topTake_yes g2 p2 lst q x e o _ HS.out.topic HN.out i0 i1).mono ?_
                rintro en w7 ⟨rfl, ht7, hc7⟩
                obtain ⟨c3, c4, f3, f4⟩ := HS.out.after HN.out hc7
                have HS2 := Lib.hid (HS.out.takes HN.out i0 i1 ht7 hc7)
                clear ht7 hc7 c1 c2 f1 f2
                go_wp2_with fail
                go_roundg (l.length - (j + 1))
                case measure => have := HK.out; omega
                case rel => exact ⟨j + 1, _, by go_num, by omega, rfl, HS2.out⟩
              · have hout : x < o ∨ e < x := by omega
                clear hin
                go_wp2_with fail
                refine (topTake_arg g2 p2 lst q x e o _ HS.out.topic HN.out hout).mono ?_
                rintro en w7 ⟨rfl, rfl⟩
                go_wp2_with fail
                go_roundg (l.length - (j + 1))
                case measure => have := HK.out; omega
                case rel => exact ⟨j + 1, _, by go_num, by omega, rfl, HS.out.next⟩
            · have h3' : ((j : Int) % 3 == 2) = false := by simp [h3]
              clear h3
              by_cases hin : 1 ≤ x ∧ x ≤ 100000
              · obtain ⟨i0, i1⟩ := hin
                go_wp2_with fail
                refine (topMake_yes g2 p2 lst q x e o _ HS.out.topic HN.out i0 i1).mono ?_
                rintro en w7 ⟨rfl, ht7, hc7⟩
                obtain ⟨c3, c4, f3, f4⟩ := HS.out.after HN.out hc7
                have HS2 := Lib.hid (HS.out.makes HN.out i0 i1 (by omega) ht7 hc7)
                clear ht7 hc7 c1 c2 f1 f2
                go_wp2_with fail
                go_roundg (l.length - (j + 1))
                case measure => have := HK.out; omega
                case rel => exact ⟨j + 1, _, by go_num, by omega, rfl, HS2.out⟩
              · have hout : x < 1 ∨ 100000 < x := by omega
                clear hin
                go_wp2_with fail
                refine (topMake_arg g2 p2 lst q x _ HS.out.topic (by omega) (by rw [HS.out.len]; exact hq1) hout).mono ?_
                rintro en w7 ⟨rfl, rfl⟩
                go_wp2_with fail
                go_roundg (l.length - (j + 1))
                case measure => have := HK.out; omega
                case rel => exact ⟨j + 1, _, by go_num, by omega, rfl, HS.out.next⟩
          · have hj9 := Lib.hid hj; have hS2 := hS; have HS := Lib.hid hS
            clear hS hk
            go_wp2_with fail
            refine (topLags g2 p2 lst _ hS2.topic hS2.small).mono ?_
            rintro e w8 ⟨v8, rfl, ho8, hb8⟩
            have HB := Lib.hid (HS.out.same (Tide.Chg.of_below hb8 (Nat.le_refl _)))
            obtain ⟨A8, cap8, rfl, h8⟩ := ho8.in_
            have H8 := Lib.hid h8
            have hll : (lagsOf lst).length = m := by unfold lagsOf; rw [List.length_map]; exact HS.out.len
            rw [hll] at H8 ⊢
            clear ho8 hb8 hS2 h8 HS hll
            go_wp2_with fail
            go_loopw [111] (fun i wr => ∃ t : Nat, t ≤ m ∧ i = .int .i64 t ∧ Tide.Chg (fun _ => False) w8 wr) (fun i _ => m - (intOf i).toNat)
            case atStart => exact ⟨0, by omega, rfl, Tide.Chg.refl _ _⟩
            case round =>
              obtain ⟨t, ht, rfl, hch⟩ := hrel
              by_cases hlt2 : t < m
              · have hS9 := HB.out.same hch
                obtain ⟨⟨e, o⟩, hn⟩ := Tide.get_some lst (show t < lst.length by rw [hS9.len]; exact hlt2)
                obtain ⟨c1, c2, f1, f2, o0, o1, e1⟩ := hS9.cells hn
                have hlag : (lagsOf lst)[t]? = some (e - o) := by unfold lagsOf; simp [hn]
                obtain ⟨b9, off9, rfl, hb9, hc9⟩ := H8.out (by omega)
                have c3 : wr.cell? ⟨b9, off9 + t, none⟩ = some (.int .i64 (e - o)) := (World.cell?_of_block (w := w8) (a := ⟨b9, off9 + t, none⟩) (hch.block b9 hb9 (fun h => h))).trans (hc9 t _ hlag)
                have t0 : (0 : Int) ≤ (t : Int) := by omega
                have t1 : (t : Int) < (m : Int) := by omega
                have HH := Lib.hid hch
                have e2 : e ≤ 10000000 := by have := hj9.out; omega
                have ew : IntKind.i64.wrap (e - o) = e - o := IntWalk.i64_in _ (by omega)
                clear hS9 hn hlag hc9 hch f1 f2
                go_wp2_with fail
                go_quiet (fail)
                clear ew
                go_wp2_with fail
                go_roundw
                case rel => exact ⟨t + 1, by omega, by go_num, HH.out.drewN _⟩
                case measure => simp [intOf]; omega
              · have HH := Lib.hid (HB.out.same hch)
                clear hch
                go_wp2_with fail
                go_ret
                exact ⟨rfl, HH.out.below⟩
  · have hbad : n < 1 ∨ 20 < n := by omega
    clear hn
    go_wp2_with fail
    refine (topNew_no _ hbad _).mono ?_
    rintro e w6 ⟨rfl, rfl⟩
    go_wp2_with fail
    go_ret
    exact ⟨rfl, hb5⟩
end Go.Proofs.Ytgkbdoecpbepbaa
