/- LoopBounds: which triggers may fail; the numbers from 0 on; the plain law. -/
import Derived.Test.YtcnoapogeohmkaaLopN
import Derived.Test.YtcnoapogeohmkaaLopK
import Derived.Test.YtcnoapogeohmkaaOpenGlance
set_option linter.unusedVariables false
set_option linter.unusedSimpArgs false
namespace Go.Proofs.Ytcnoapogeohmkaa
open Go.RowKit
set_option linter.unusedVariables false
theorem allT_keep {p : Pln} {sec have0 : Int} : ∀ {ts : List Trg} {rs : List Rd} {fs : List Int} {w : Int}, (allT p sec have0 ts rs fs (w, true)).2 = true
  | [], _, _, w => rfl
  | _ :: _, [], _, w => rfl
  | _ :: _, _ :: _, [], w => rfl
  | t :: ts, r :: rs, f :: fs, w => allT_keep (ts := ts) (rs := rs) (fs := fs)
theorem allT_hit {p : Pln} {sec have0 : Int} : ∀ {ts : List Trg} {rs : List Rd} {fs : List Int} {k : Nat} {t : Trg} {r : Rd} {f : Int} {x : Int × Bool}, ts[k]? = some t → rs[k]? = some r → fs[k]? = some f → (oneT p t f r sec have0).2 = true → (allT p sec have0 ts rs fs x).2 = true
  | [], _, _, k, _, _, _, _, h, _, _, _ => by simp at h
  | _ :: _, [], _, k, _, _, _, _, _, h, _, _ => by simp at h
  | _ :: _, _ :: _, [], k, _, _, _, _, _, _, h, _ => by simp at h
  | t :: ts, r :: rs, f :: fs, 0, _, _, _, (w, b), h1, h2, h3, h4 => by
    simp at h1 h2 h3; subst h1; subst h2; subst h3
    show (allT p sec have0 ts rs fs (_, b || (oneT p t f r sec have0).2)).2 = true
    rw [h4, Bool.or_true]
    exact allT_keep
  | t :: ts, r :: rs, f :: fs, k + 1, _, _, _, (w, b), h1, h2, h3, h4 => allT_hit (ts := ts) (rs := rs) (fs := fs) (k := k) (by simpa using h1) (by simpa using h2) (by simpa using h3) h4
/-- a trigger that may fail does so -/
def Failing (ts : List Trg) (rs : List Rd) : Prop := ∃ (i : Nat) (t : Trg) (r : Rd), ts[i]? = some t ∧ rs[i]? = some r ∧ r.failed = true ∧ t.kind ≠ 3
theorem bounds_says {l : Lp} {j : Nat} {now sec have0 : Int} {rs : List Rd} {busy : Bool} (hl : l.ok j) (hk : lookOk l now sec have0 rs.length = true) (hp : l.pause < 0) :
    l.p.mn ≤ lookN l now sec have0 rs busy ∧ lookN l now sec have0 rs busy ≤ l.p.mx ∧ (busy = true ∨ Failing l.p.trigs rs → 1 ≤ lookN l now sec have0 rs busy) := by
  have hP := planE_ok hl.plan
  obtain ⟨e1, _, _⟩ := look_fine (busy := busy) hk hp
  have hmn := hP.mn
  have hmx := hP.mx
  rw [e1]
  generalize Tide.settleN l.s now have0 ((l.seen now rs).wish now sec have0 rs busy) = x
  have ht : busy = true ∨ Failing l.p.trigs rs → ((l.seen now rs).told sec have0 rs busy).2 = true := by
    rintro (hb | ⟨i, t, r, h1, h2, h3, h4⟩)
    · subst hb; exact allT_keep
    · obtain ⟨f, hf⟩ := Tide.get_some l.fails (show i < l.fails.length by rw [hl.many]; exact Tide.get_lt h1)
      have hf0 := hl.fail f (List.mem_of_getElem? hf)
      have h5 := failsL_get h1 h2 hf
      have h6 : failOf t r f = f + 1 := by unfold failOf; rw [h3, show (t.kind == 3) = false by simpa using h4]; rfl
      rw [h6] at h5
      refine allT_hit (k := i) h1 h2 h5 ?_
      unfold oneT
      rw [if_pos (by omega)]
  generalize ((l.seen now rs).told sec have0 rs busy).2 = b at ht
  generalize ((l.seen now rs).marked now b).needed = nd
  unfold clipOf lowOf
  cases b
  · refine ⟨?_, ?_, fun h => by have := ht h; cases this⟩
    · simp only [Bool.false_eq_true, if_false]; split <;> omega
    · omega
  · simp only [if_true]
    refine ⟨?_, ?_, fun _ => ?_⟩ <;> omega
def mayFail (t : Trg) : Bool := t.kind != 3
set_option maxRecDepth 100000 in
set_option maxHeartbeats 1600000 in
theorem lbKind (m : Trg) (W : World) : Calls Try.prog 22 #[.agg #[.int .i64 m.kind, .int .i64 m.target, .int .i64 m.act, .int .u64 (m.a.mi : Int), .int .u64 (m.a.h : Int), .int .u64 (m.a.d : Int), .int .u64 (m.a.mo : Int), .int .u64 (m.a.wk : Int), .bool m.a.ad, .bool m.a.aw, .int .u64 (m.b.mi : Int), .int .u64 (m.b.h : Int), .int .u64 (m.b.d : Int), .int .u64 (m.b.mo : Int), .int .u64 (m.b.wk : Int), .bool m.b.ad, .bool m.b.aw]] W fun e W' => e = .returned (.bool (mayFail m)) ∧ Below W.heap.size W W' := by
  have HF := Lib.hid (show mayFail m = (m.kind != 3) from rfl)
  have HB := Lib.hid ((Below.refl W.heap.size W).alloc (Nat.le_refl _) (.cells #[.int .i64 m.kind, .int .i64 m.target, .int .i64 m.act, .int .u64 (m.a.mi : Int), .int .u64 (m.a.h : Int), .int .u64 (m.a.d : Int), .int .u64 (m.a.mo : Int), .int .u64 (m.a.wk : Int), .bool m.a.ad, .bool m.a.aw, .int .u64 (m.b.mi : Int), .int .u64 (m.b.h : Int), .int .u64 (m.b.d : Int), .int .u64 (m.b.mo : Int), .int .u64 (m.b.wk : Int), .bool m.b.ad, .bool m.b.aw] 65))
  go_enter Try.func22, Try.ntmps22
  go_wp2_with fail
  go_ret
  exact ⟨by rw [HF.out] <;> rfl, HB.out⟩
/- slices.IndexFunc at []api.Trigger, the function tidekeep.LoopBounds$1 -/
set_option maxRecDepth 100000 in
set_option maxHeartbeats 4000000 in
theorem trgB_index  (p : Trg → Bool) (l : List Trg) (v : Value) (w : World) (hv : Tide.ListIn w 17 Trg.enc v l) (hlen : l.length ≤ 100000000)
    (hp : ∀ (m : Trg) (W : World), Below w.heap.size w W → Calls Try.prog 22 #[.agg #[.int .i64 m.kind, .int .i64 m.target, .int .i64 m.act, .int .u64 (m.a.mi : Int), .int .u64 (m.a.h : Int), .int .u64 (m.a.d : Int), .int .u64 (m.a.mo : Int), .int .u64 (m.a.wk : Int), .bool m.a.ad, .bool m.a.aw, .int .u64 (m.b.mi : Int), .int .u64 (m.b.h : Int), .int .u64 (m.b.d : Int), .int .u64 (m.b.mo : Int), .int .u64 (m.b.wk : Int), .bool m.b.ad, .bool m.b.aw]] W fun e W' => e = .returned (.bool (p m)) ∧ Below W.heap.size W W') :
    Calls Try.prog 38 #[v, .func (.func 22) #[] #[]] w fun e w' => e = .returned (.int .i64 (Tide.idxOf (Tide.firstAt p l))) ∧ Below w.heap.size w w' := by
  obtain ⟨A, cap, rfl, hA⟩ := hv
  have HA := Lib.hid hA; have HP := Lib.hid hp
  clear hA hp
  go_enter Try.func38, Try.ntmps38
  go_wp2_with fail
  go_loopw [8] (fun i wr => ∃ k : Nat, k ≤ l.length ∧ i = .int .i64 k ∧ Hid (∀ (t : Nat) (b : Trg), t < k → l[t]? = some b → p b = false) ∧ Below w.heap.size w wr) (fun i _ => l.length - (intOf i).toNat)
  case atStart => exact ⟨0, by omega, rfl, fun t b ht => by omega, Below.refl _ _⟩
  case round =>
    obtain ⟨k, hk, rfl, hno, hb⟩ := hrel
    by_cases hlt : k < l.length
    · obtain ⟨m, hm⟩ := Tide.get_some l hlt
      obtain ⟨b, off, rfl, hbl, hc⟩ := HA.out (by omega)
      have cl : ∀ (j : Nat) (u : Value), m.enc[j]? = some u → wr.cell? ⟨b, off + k * 17 + j, none⟩ = some u := fun j u hu => (hb.cell (p := ⟨b, off + k * 17 + j, none⟩) hbl).trans (hc k m j u hm hu)
      have c0 : wr.cell? ⟨b, off + k * 17, none⟩ = _ := cl 0 _ rfl
      have c1 : wr.cell? ⟨b, off + k * 17 + 1, none⟩ = some (.int .i64 m.target) := cl 1 _ rfl; have c2 : wr.cell? ⟨b, off + k * 17 + 2, none⟩ = some (.int .i64 m.act) := cl 2 _ rfl; have c3 : wr.cell? ⟨b, off + k * 17 + 3, none⟩ = some (.int .u64 (m.a.mi : Int)) := cl 3 _ rfl; have c4 : wr.cell? ⟨b, off + k * 17 + 4, none⟩ = some (.int .u64 (m.a.h : Int)) := cl 4 _ rfl; have c5 : wr.cell? ⟨b, off + k * 17 + 5, none⟩ = some (.int .u64 (m.a.d : Int)) := cl 5 _ rfl; have c6 : wr.cell? ⟨b, off + k * 17 + 6, none⟩ = some (.int .u64 (m.a.mo : Int)) := cl 6 _ rfl; have c7 : wr.cell? ⟨b, off + k * 17 + 7, none⟩ = some (.int .u64 (m.a.wk : Int)) := cl 7 _ rfl; have c8 : wr.cell? ⟨b, off + k * 17 + 8, none⟩ = some (.bool m.a.ad) := cl 8 _ rfl; have c9 : wr.cell? ⟨b, off + k * 17 + 9, none⟩ = some (.bool m.a.aw) := cl 9 _ rfl; have c10 : wr.cell? ⟨b, off + k * 17 + 10, none⟩ = some (.int .u64 (m.b.mi : Int)) := cl 10 _ rfl; have c11 : wr.cell? ⟨b, off + k * 17 + 11, none⟩ = some (.int .u64 (m.b.h : Int)) := cl 11 _ rfl; have c12 : wr.cell? ⟨b, off + k * 17 + 12, none⟩ = some (.int .u64 (m.b.d : Int)) := cl 12 _ rfl; have c13 : wr.cell? ⟨b, off + k * 17 + 13, none⟩ = some (.int .u64 (m.b.mo : Int)) := cl 13 _ rfl; have c14 : wr.cell? ⟨b, off + k * 17 + 14, none⟩ = some (.int .u64 (m.b.wk : Int)) := cl 14 _ rfl; have c15 : wr.cell? ⟨b, off + k * 17 + 15, none⟩ = some (.bool m.b.ad) := cl 15 _ rfl; have c16 : wr.cell? ⟨b, off + k * 17 + 16, none⟩ = some (.bool m.b.aw) := cl 16 _ rfl
      have i0 : (0 : Int) ≤ (k : Int) := by omega
      have i1 : (k : Int) < (l.length : Int) := by omega
      have HM := Lib.hid hm
      clear hc cl hm
      go_wp2_with fail
      refine (HP.out m _ hb).mono ?_
      rintro e w1 ⟨rfl, hb1⟩
      have HB := Lib.hid (hb.trans (hb1.mono hb.size))
      cases hpm : p m
      · have HN := Lib.hid (show ∀ (t : Nat) (b : Trg), t < k + 1 → l[t]? = some b → p b = false from fun t b ht hb => by
          rcases Nat.lt_succ_iff_lt_or_eq.mp ht with h | h
          · exact hno.out t b h hb
          · subst h; rw [HM.out] at hb; cases hb; exact hpm)
        clear hb hb1 hno hpm
        go_wp2_with fail
        go_roundw
        case rel => exact ⟨k + 1, by omega, by go_num, HN, HB.out⟩
        case measure => simp [intOf]; omega
      · have HN := Lib.hid (Tide.firstAt_some hno.out HM.out hpm)
        clear hb hb1 hno hpm
        go_wp2_with fail
        go_ret
        exact ⟨by rw [HN.out]; rfl, HB.out⟩
    · have hke : k = l.length := by omega
      have HN := Lib.hid (Tide.firstAt_none (p := p) (l := l) (fun t b hb => hno.out t b (by rw [hke]; exact Tide.get_lt hb) hb))
      have HB := Lib.hid hb
      clear hb hno hke
      go_wp2_with fail
      go_ret
      exact ⟨by rw [HN.out]; rfl, HB.out⟩
theorem lb_some (i : Nat) : Tide.idxOf (some i) = (i : Int) := rfl
theorem lb_none : Tide.idxOf none = -1 := rfl
set_option maxRecDepth 100000 in
set_option maxHeartbeats 1600000 in
theorem trgAny (ts : List Trg) (v : Value) (w : World) (hv : Tide.ListIn w 17 Trg.enc v ts) (hl : ts.length ≤ 1000) :
    Calls Try.prog 21 #[v, .func (.func 22) #[] #[]] w fun e w' => e = .returned (.bool (Tide.firstAt mayFail ts).isSome) ∧ Below w.heap.size w w' := by
  have HI := Lib.hid (trgB_index mayFail ts v w hv (by omega) (fun m W _ => lbKind m W))
  obtain ⟨r, hr⟩ : ∃ r, Tide.firstAt mayFail ts = r := ⟨_, rfl⟩
  rw [hr] at HI ⊢
  clear hr hv
  cases r with
  | none =>
    rw [lb_none] at HI
    go_enter Try.func21, Try.ntmps21
    go_wp2_with fail
    refine HI.out.mono ?_
    rintro e w1 ⟨rfl, hb⟩
    have HB := Lib.hid hb
    clear hb
    go_wp2_with fail
    go_ret
    exact ⟨rfl, HB.out⟩
  | some i =>
    rw [lb_some] at HI
    have hi : (0 : Int) ≤ (i : Int) := by omega
    go_enter Try.func21, Try.ntmps21
    go_wp2_with fail
    refine HI.out.mono ?_
    rintro e w1 ⟨rfl, hb⟩
    have HB := Lib.hid hb
    clear hb
    go_wp2_with fail
    go_ret
    exact ⟨rfl, HB.out⟩
def IdxAt (w wr : World) (v : Value) (k : Nat) : Prop := Tide.OwnRow (fun b => w.heap.size ≤ b) wr 3 1 v k ((List.range k).map fun (i : Nat) => Value.int .i64 (i : Int)) ∧ Below w.heap.size w wr
set_option maxRecDepth 100000 in
set_option maxHeartbeats 3200000 in
theorem indicesC (n : Nat) (w : World) (hn : n ≤ 1000) : Calls Try.prog 24 #[.int .i64 (n : Int)] w fun e w' => ∃ v, e = .returned v ∧ IdxAt w w' v n := by
  obtain ⟨i0, hi, hz0, hz1, hz2⟩ := info_parts lop_info
  have hn2 : (n : Int) ≤ 1000 := by omega
  have HQ := Lib.hid (fun (wr : World) (v : Value) (h : IdxAt w wr v n) => (⟨v, rfl, h⟩ : ∃ u, Ending.returned v = .returned u ∧ IdxAt w wr u n))
  go_enter Try.func24, Try.ntmps24
  go_wp2_with fail
  go_loopw [3, 6] (fun v i wr => ∃ k : Nat, k ≤ n ∧ i = .int .i64 k ∧ Hid (IdxAt w wr v k)) (fun _ i _ => n - (intOf i).toNat)
  case atStart => exact ⟨0, Nat.zero_le _, rfl, Lib.hid ⟨Tide.OwnRow.nil _ _ _ _, Below.refl _ _⟩⟩
  case round =>
    obtain ⟨k, hk, rfl, HK⟩ := hrel
    obtain ⟨h1, h2⟩ := HK.out
    obtain ⟨A, cap, rfl, _, _, _⟩ := h1.slice
    by_cases hlt : k < n
    · have hk0 : (0 : Int) ≤ (k : Int) := by omega
      have hk1 : (k : Int) < (n : Int) := by omega
      have HO := Lib.hid (h1.alloc (.cells #[.int .i64 (k : Int)] 3))
      have HB := Lib.hid (h2.alloc h2.size (.cells #[.int .i64 (k : Int)] 3))
      have hm3 := Lib.hid (show k + 1 ≤ maxLen by simp only [maxLen]; omega)
      have hm4 := Lib.hid (show (k + 1) * 8 ≤ 140737488355328 by omega)
      clear h1 h2 HK
      go_wp2_with (at_builtin; refine wpList_append_lies _ (by rfl) (.tmp 9) (.tmp 11) 27 (by rfl) 0 3 i0 (.int .i64 0) 1 8 Try.underlying27 hi hz0 hz1 hz2 rfl (by decide) (.slice A k cap) _ _ rfl HO.out.owns ⟨wr.heap.size, 0, none⟩ 1 1 [.int .i64 (k : Int)] rfl rfl (Tide.new_one rfl) (by simp [Value.oneCell']) (by decide) hm3.out hm4.out (Nat.zero_le _) _ rfl ?_)
      intro b2 cap2 w5 hown hg ho hlt2
      obtain ⟨r1, r2⟩ := HO.out.app hown hg (ho.imp id (fun e => e.trans (by simp))) hlt2
      have HN := Lib.hid (show IdxAt w w5 (.slice (some ⟨b2, 0, none⟩) (k + 1) cap2) (k + 1) from ⟨by
        rw [List.range_succ, List.map_append]
        exact r1.mono (fun b _ hb => by
          have := HB.out.size
          rcases hb with hb | hb
          · exact hb
          · omega), HB.out.trans (r2.below HB.out.size (fun b hb h => by omega))⟩)
      clear hown hg ho hlt2 r1 r2 HO HB
      go_wp2_with fail
      go_roundw
      case rel => exact ⟨k + 1, by omega, by go_num, HN⟩
      case measure => simp [intOf]; omega
    · have hke : k = n := by omega
      subst hke
      have HF := Lib.hid (HQ.out _ _ HK.out)
      clear h1 h2 HK HQ
      go_wp2_with fail
      go_ret
      exact HF.out
theorem IdxAt.list {w w' : World} {v : Value} {n : Nat} (h : IdxAt w w' v n) : ∃ A cap, v = .slice A n cap ∧ (0 < n → ∃ b, A = some ⟨b, 0, none⟩ ∧ b < w'.heap.size ∧ ∀ i, i < n → w'.cell? ⟨b, i, none⟩ = some (.int .i64 (i : Int))) := by
  obtain ⟨A, cap, e, _, _, hc⟩ := h.1.slice
  refine ⟨A, cap, e, fun h0 => ?_⟩
  obtain ⟨g, e1, _, hr⟩ := hc h0
  exact ⟨g, e1, hr.inside, fun i hi => hr.cell (by rw [List.getElem?_map, List.getElem?_range hi]; rfl)⟩
set_option maxRecDepth 100000 in
set_option maxHeartbeats 4000000 in
theorem idxInts (B C : Nat) (q : Nat → Bool) (n : Nat) (v : Value) (w0 w : World) (hv : IdxAt w0 w v n) (hn : n ≤ 1000)
    (hp : ∀ (i : Nat) (W : World), i < n → Below w.heap.size w W → Calls Try.prog 25 #[.int .i64 (i : Int), .pointer (some ⟨B, 0, none⟩), .pointer (some ⟨C, 0, none⟩)] W fun e W' => e = .returned (.bool (q i)) ∧ Below W.heap.size W W') :
    Calls Try.prog 39 #[v, .func (.func 25) #[] #[.pointer (some ⟨B, 0, none⟩), .pointer (some ⟨C, 0, none⟩)]] w fun e w' => e = .returned (.int .i64 (Tide.idxOf (Tide.firstAt q (List.range n)))) ∧ Below w.heap.size w w' := by
  obtain ⟨A, cap, rfl, hA⟩ := hv.list
  have HA := Lib.hid hA; have HP := Lib.hid hp
  clear hA hp hv
  have hn2 : (n : Int) ≤ 1000 := by omega
  go_enter Try.func39, Try.ntmps39
  go_wp2_with fail
  go_loopw [8] (fun i wr => ∃ k : Nat, k ≤ n ∧ i = .int .i64 k ∧ Hid (∀ (t : Nat), t < k → q t = false) ∧ Below w.heap.size w wr) (fun i _ => n - (intOf i).toNat)
  case atStart => exact ⟨0, by omega, rfl, Lib.hid (fun t ht => by omega), Below.refl _ _⟩
  case round =>
    obtain ⟨k, hk, rfl, hno, hb⟩ := hrel
    by_cases hlt : k < n
    · obtain ⟨b, rfl, hbl, hc⟩ := HA.out (by omega)
      have c0 : wr.cell? ⟨b, k, none⟩ = some (.int .i64 (k : Int)) := (hb.cell (p := ⟨b, k, none⟩) hbl).trans (hc k hlt)
      have i0 : (0 : Int) ≤ (k : Int) := by omega
      have i1 : (k : Int) < (n : Int) := by omega
      clear hc
      go_wp2_with fail
      refine (HP.out k _ hlt hb).mono ?_
      rintro e w1 ⟨rfl, hb1⟩
      have HB := Lib.hid (hb.trans (hb1.mono hb.size))
      cases hpm : q k
      · have HN := Lib.hid (show ∀ (t : Nat), t < k + 1 → q t = false from fun t ht => by
          rcases Nat.lt_succ_iff_lt_or_eq.mp ht with h | h
          · exact hno.out t h
          · subst h; exact hpm)
        clear hb hb1 hno hpm
        go_wp2_with fail
        go_roundw
        case rel => exact ⟨k + 1, by omega, by go_num, HN, HB.out⟩
        case measure => simp [intOf]; omega
      · have HN := Lib.hid (Tide.firstAt_some (p := q) (l := List.range n) (i := k) (a := k) (fun t u ht hu => by
          have e := List.getElem?_range (show t < n by omega)
          rw [e] at hu; cases hu; exact hno.out t ht) (List.getElem?_range hlt) hpm)
        clear hb hb1 hno hpm
        go_wp2_with fail
        go_ret
        exact ⟨by rw [HN.out]; rfl, HB.out⟩
    · have hke : k = n := by omega
      have HN := Lib.hid (Tide.firstAt_none (p := q) (l := List.range n) (fun t u hu => by
        have hlt2 := Tide.get_lt hu
        rw [List.length_range] at hlt2
        rw [List.getElem?_range hlt2] at hu; cases hu; exact hno.out t (by omega)))
      have HB := Lib.hid hb
      clear hb hno hke
      go_wp2_with fail
      go_ret
      exact ⟨by rw [HN.out]; rfl, HB.out⟩
set_option maxRecDepth 100000 in
set_option maxHeartbeats 1600000 in
theorem anyInts (B C : Nat) (q : Nat → Bool) (n : Nat) (v : Value) (w0 w : World) (hv : IdxAt w0 w v n) (hn : n ≤ 1000)
    (hp : ∀ (i : Nat) (W : World), i < n → Below w.heap.size w W → Calls Try.prog 25 #[.int .i64 (i : Int), .pointer (some ⟨B, 0, none⟩), .pointer (some ⟨C, 0, none⟩)] W fun e W' => e = .returned (.bool (q i)) ∧ Below W.heap.size W W') :
    Calls Try.prog 23 #[v, .func (.func 25) #[] #[.pointer (some ⟨B, 0, none⟩), .pointer (some ⟨C, 0, none⟩)]] w fun e w' => e = .returned (.bool (Tide.firstAt q (List.range n)).isSome) ∧ Below w.heap.size w w' := by
  have HI := Lib.hid (idxInts B C q n v w0 w hv hn hp)
  obtain ⟨r, hr⟩ : ∃ r, Tide.firstAt q (List.range n) = r := ⟨_, rfl⟩
  rw [hr] at HI ⊢
  clear hr hv hp
  cases r with
  | none =>
    rw [lb_none] at HI
    go_enter Try.func23, Try.ntmps23
    go_wp2_with fail
    refine HI.out.mono ?_
    rintro e w1 ⟨rfl, hb⟩
    have HB := Lib.hid hb
    clear hb
    go_wp2_with fail
    go_ret
    exact ⟨rfl, HB.out⟩
  | some i =>
    rw [lb_some] at HI
    have hi : (0 : Int) ≤ (i : Int) := by omega
    go_enter Try.func23, Try.ntmps23
    go_wp2_with fail
    refine HI.out.mono ?_
    rintro e w1 ⟨rfl, hb⟩
    have HB := Lib.hid hb
    clear hb
    go_wp2_with fail
    go_ret
    exact ⟨rfl, HB.out⟩
set_option maxRecDepth 100000 in
set_option maxHeartbeats 1600000 in
/-- the closure that asks one reading -/
theorem lbFail (i B C br offr nr capr bt offt nt capt : Nat) (f : Bool) (kind : Int) (W : World) (h1 : W.cell? ⟨B, 5, none⟩ = some (.slice (some ⟨br, offr, none⟩) nr capr)) (h2 : W.cell? ⟨br, offr + i * 2, none⟩ = some (.bool f)) (hi : i < nr)
    (h3 : W.cell? ⟨C, 17, none⟩ = some (.slice (some ⟨bt, offt, none⟩) nt capt)) (h4 : W.cell? ⟨bt, offt + i * 17, none⟩ = some (.int .i64 kind)) (ht : i < nt) (hn : nr ≤ 1000) :
    Calls Try.prog 25 #[.int .i64 (i : Int), .pointer (some ⟨B, 0, none⟩), .pointer (some ⟨C, 0, none⟩)] W fun e W' => e = .returned (.bool (f && kind != 3)) ∧ Below W.heap.size W W' := by
  have i0 : (0 : Int) ≤ (i : Int) := by omega
  have i1 : (i : Int) < (nr : Int) := by omega
  have i2 : (i : Int) < (nt : Int) := by omega
  have HBr := Lib.hid (Below.refl W.heap.size W)
  cases f
  · have HF := Lib.hid (show (false && kind != 3) = false from rfl)
    clear hi ht
    go_enter Try.func25, Try.ntmps25
    go_wp2_with fail
    go_ret
    exact ⟨by rw [HF.out] <;> rfl, HBr.out⟩
  · have HF := Lib.hid (show (true && kind != 3) = (kind != 3) from rfl)
    clear hi ht
    go_enter Try.func25, Try.ntmps25
    go_wp2_with fail
    go_ret
    exact ⟨by rw [HF.out] <;> rfl, HBr.out⟩
end Go.Proofs.Ytcnoapogeohmkaa
