/- Of the texts BufE, BufF, BufG, BufH, BufI, CardF, OpenList, OpenHaps: what this claim reaches. -/
import Derived.Handed
import Derived.LaidMore
import Derived.LaidLaws
import Derived.Lay
import Derived.SevenTiedAt
import Derived.Stop.Joined
import Derived.Test.YtidonhndeohdlaaGreatDoorTt05
import Derived.Test.YtidonhndeohdlaaGreatDoorTt01
import Derived.Test.YtidonhndeohdlaaGreatDoorTt03
import Derived.Test.YtidonhndeohdlaaGreatDoorTt00
set_option linter.unusedVariables false
set_option linter.unusedSimpArgs false
namespace Go.Proofs.YtidonhndeohdlaaGreatDoor
open Go.RowKit
theorem buf_info : (Tryz.prog.info? 45).map (fun i => (i.zero, i.size, i.bytes)) = some (some (.agg #[.int .i64 0, .int .i64 0, .int .i64 0, .int .i64 0, .int .i64 0]), 5, 40) := by kernel_rfl
theorem buf_one {l : List Tide.Req} : ∀ u ∈ l.flatMap Tide.Req.enc, u.oneCell' = true := by
  intro u hu
  obtain ⟨r, _, hr⟩ := List.mem_flatMap.1 hu
  simp [Tide.Req.enc] at hr
  rcases hr with h | h | h | h | h <;> subst h <;> rfl
def buf_ClonePost (w : World) (n : Nat) (xs : List Value) (e : Ending) (w' : World) : Prop := ∃ v', e = .returned v' ∧ Tide.OwnRow (fun b => w.heap.size ≤ b) w' 45 5 v' n xs ∧ Below w.heap.size w w'
set_option maxRecDepth 100000 in
set_option maxHeartbeats 4000000 in
theorem buf_clone (S : Nat → Prop) (w : World) (v : Value) (n : Nat) (xs : List Value) (h : Tide.OwnRow S w 45 5 v n xs) (hn : n ≤ 100000000) (h1 : ∀ u ∈ xs, u.oneCell' = true) :
    Calls Tryz.prog 58 #[v] w (buf_ClonePost w n xs) := by
  have heq := @Lib.run_eql_slice_nil Tryz.prog
  rcases h.2 with ⟨rfl, rfl⟩ | ⟨g, cap, rfl, hS, hcap, hmax, hrow⟩
  · have hx : xs = [] := List.length_eq_zero_iff.1 (h.1.trans (Nat.zero_mul _))
    have HF := Lib.hid (show buf_ClonePost w 0 xs (.returned (.slice none 0 0)) w from ⟨_, rfl, by rw [hx]; exact Tide.OwnRow.nil _ _ _ _, Below.refl _ _⟩)
    have hq := fun w => Lib.run_eql_slice_nil (P := Tryz.prog) w 43 45 none 0 0 0 0 Tryz.underlying43
    clear h hx heq
    go_enter Tryz.func58, Tryz.ntmps58
    go_wp2_with fail
    go_ret
    exact HF.out
  · have hq := fun w => Lib.run_eql_slice_nil (P := Tryz.prog) w 43 45 (some ⟨g, 0, none⟩) n cap 0 0 Tryz.underlying43
    have hlen := h.1
    obtain ⟨i0, hi0, hz0, hz1, hz2⟩ := info_parts buf_info
    have HR := Lib.hid hrow; have H1 := Lib.hid h1; have HL := Lib.hid hlen
    have hown : (w.alloc (.cells #[] 45)).ownsRow w.heap.size 45 5 (.slice (some ⟨w.heap.size, 0, none⟩) 0 0) 0 [] := World.ownsRow_made w #[] 0 (Nat.le_refl _) (Nat.zero_le _) rfl
    have HO := Lib.hid hown
    have hm3 := Lib.hid (show 0 + n ≤ maxLen by simp only [maxLen]; omega)
    have hm4 := Lib.hid (show (0 + n) * 40 ≤ 140737488355328 by omega)
    clear h hrow h1 hlen hown hcap hmax hn heq
    go_enter Tryz.func58, Tryz.ntmps58
    go_wp2_with (at_builtin; refine wpList_append_own _ (by rfl) (.tmp 5) (.tmp 6) 43 (by rfl) w.heap.size 45 i0 (.agg #[.int .i64 0, .int .i64 0, .int .i64 0, .int .i64 0, .int .i64 0]) 5 40 Tryz.underlying43 hi0 hz0 hz1 hz2 rfl (by decide) _ _ _ rfl HO.out ⟨g, 0, none⟩ n cap xs rfl HL.out ?c1 H1.out hm3.out hm4.out ?c5 ?_)
    case c1 => exact fun j u hu => by rw [Addr.add_lit, Nat.zero_add]; exact (HR.out.alloc _).cell hu
    case c5 => simp
    intro v' w1 hown1 hg1 _
    have HF := Lib.hid (show buf_ClonePost w n xs (.returned v') w1 from by
      refine ⟨v', rfl, ?_, (((Below.refl _ w).alloc (Nat.le_refl _) _)).grown hg1 (by simp) (fun k hk => by simp [Value.ownBlock] at hk; omega)⟩
      exact Tide.OwnRow.of_owns hown1 (Tide.own_ge hown1))
    clear hown1 hg1
    go_wp2_with fail
    go_ret
    exact HF.out
theorem firstN_some {l : List Tide.Req} {src : Int} {i : Nat} {r : Tide.Req} (h0 : Tide.countF src 2 l ≤ 0) (h : Tide.firstAt (Tide.waitsOf src) l = some i) (hr : l[i]? = some r) : Tide.firstN l src = r.id := by
  unfold Tide.firstN; rw [if_neg (by omega), h]; simp only; rw [hr]; rfl
theorem firstN_none {l : List Tide.Req} {src : Int} (h : Tide.firstAt (Tide.waitsOf src) l = none) : Tide.firstN l src = 0 := by
  unfold Tide.firstN; rw [h]; split <;> rfl
set_option maxRecDepth 100000 in
set_option maxHeartbeats 1600000 in
theorem bufFirst (S : Nat → Prop) (g : Nat) (v : Value) (l : List Tide.Req) (src : Int) (w : World) (h : BAt 123 S w g v l) :
    Calls Tryz.prog 122 #[.pointer (some ⟨g, 0, none⟩), .int .i64 src] w (ReadPost w (.int .i64 (Tide.firstN l src))) := by
  obtain ⟨A, cap, rfl, _, _, _⟩ := h.row.slice
  have hs := h.small
  have HH := Lib.hid h
  clear h
  go_enter Tryz.func122, Tryz.ntmps122
  go_wp2_with fail
  refine (bufCount S g _ l src 2 _ HH.out).mono ?_
  rintro e w1 ⟨rfl, hb1⟩
  have HB1 := Lib.hid hb1
  clear hb1
  by_cases k0 : 0 < Tide.countF src 2 l
  · have HF := Lib.hid (show ReadPost w (.int .i64 (Tide.firstN l src)) (.returned (.int .i64 0)) w1 from ⟨by unfold Tide.firstN; rw [if_pos k0], HB1.out⟩)
    go_wp2_with fail
    go_ret
    exact HF.out
  · have k1 : Tide.countF src 2 l ≤ 0 := by omega
    have K0 := Lib.hid k1
    have hc : w1.cell? ⟨g, 0, none⟩ = some (.slice A l.length cap) := (HH.out.below HB1.out).head.here rfl
    clear k0
    generalize Tide.countF src 2 l = c2 at k1 ⊢
    go_wp2_with fail
    go_loopw [16] (fun i wr => ∃ k : Nat, k ≤ l.length ∧ i = .int .i64 k ∧ Hid (∀ (t : Nat) (b : Tide.Req), t < k → l[t]? = some b → Tide.waitsOf src b = false) ∧ Below w.heap.size w wr) (fun i _ => l.length - (intOf i).toNat)
    case atStart => exact ⟨0, by omega, rfl, Lib.hid (fun t b ht => by omega), HB1.out⟩
    case round =>
      clear hc
      obtain ⟨k, hk, rfl, hno, hb⟩ := hrel
      by_cases hlt : k < l.length
      · obtain ⟨r, hr⟩ := Tide.get_some l hlt
        obtain ⟨b, cap', e, hS, _, _, hbl, c0, c1, c2', c3, c4, _⟩ := (HH.out.below hb).req hr
        cases e
        have i0 : (0 : Int) ≤ (k : Int) := by omega
        have i1 : (k : Int) < (l.length : Int) := by omega
        have HB := Lib.hid (hb.alloc hb.size (.cells #[.int .i64 r.id, .int .i64 r.source, .int .i64 r.till, .int .i64 r.fate, .int .i64 r.pod] 45))
        have HR := Lib.hid hr
        clear hr hb
        have HNo := Lib.hid (show Tide.waitsOf src r = false → ∀ (t : Nat) (b : Tide.Req), t < k + 1 → l[t]? = some b → Tide.waitsOf src b = false from fun hw t b ht hb => by
          rcases Nat.lt_succ_iff_lt_or_eq.mp ht with h | h
          · exact hno.out t b h hb
          · subst h; rw [HR.out] at hb; cases hb; exact hw)
        cases hg : (r.source == src)
        · have HN := Lib.hid (HNo.out (by unfold Tide.waitsOf; rw [hg]; rfl))
          clear hno
          go_wp2_with fail
          go_roundw
          case rel => exact ⟨k + 1, by omega, by go_num, HN, HB.out⟩
          case measure => simp [intOf]; omega
        · cases hf : (r.fate == 1)
          · have HN := Lib.hid (HNo.out (by unfold Tide.waitsOf; rw [hg, hf]; rfl))
            clear hno
            go_wp2_with fail
            go_roundw
            case rel => exact ⟨k + 1, by omega, by go_num, HN, HB.out⟩
            case measure => simp [intOf]; omega
          · have HF := Lib.hid (show ReadPost w (.int .i64 (Tide.firstN l src)) (.returned (.int .i64 r.id)) _ from ⟨by rw [firstN_some K0.out (Tide.firstAt_some hno.out HR.out (by unfold Tide.waitsOf; rw [hg, hf]; rfl)) HR.out], HB.out⟩)
            clear hno
            go_wp2_with fail
            go_ret
            exact HF.out
      · have hke : k = l.length := by omega
        have HF := Lib.hid (show ReadPost w (.int .i64 (Tide.firstN l src)) (.returned (.int .i64 0)) wr from ⟨by rw [firstN_none (Tide.firstAt_none fun t b hb => hno.out t b (by rw [hke]; exact Tide.get_lt hb) hb)], hb⟩)
        clear hb hno hke
        go_wp2_with fail
        go_ret
        exact HF.out
theorem reqAt_none {l : List Tide.Req} {id : Int} (h : Tide.reqAt l id = none) : id < 1 ∨ (l.length : Int) < id := by
  unfold Tide.reqAt at h
  by_cases h1 : 1 ≤ id
  · rw [if_pos h1] at h
    have := List.getElem?_eq_none_iff.1 h
    omega
  · omega
theorem reqAt_some {l : List Tide.Req} {id : Int} {r : Tide.Req} (h : Tide.reqAt l id = some r) : ∃ k : Nat, id = k + 1 ∧ l[k]? = some r := by
  unfold Tide.reqAt at h
  by_cases h1 : 1 ≤ id
  · rw [if_pos h1] at h
    exact ⟨(id - 1).toNat, by omega, h⟩
  · rw [if_neg h1] at h; cases h
set_option maxRecDepth 100000 in
set_option maxHeartbeats 1600000 in
theorem bufFind_none (S : Nat → Prop) (g : Nat) (v : Value) (l : List Tide.Req) (id : Int) (w : World) (h : BAt 123 S w g v l) (hn : Tide.reqAt l id = none) :
    Calls Tryz.prog 103 #[.pointer (some ⟨g, 0, none⟩), .int .i64 id] w fun e w' => e = .returned (.pointer none) ∧ w = w' := by
  obtain ⟨A, cap, rfl, _, _, _⟩ := h.row.slice
  have hc : w.cell? ⟨g, 0, none⟩ = some (.slice A l.length cap) := h.head.here rfl
  have hx := reqAt_none hn
  clear h hn
  by_cases h1 : id < 1
  · clear hx
    go_enter Tryz.func103, Tryz.ntmps103
    go_wp2_with fail
    go_ret
    exact ⟨rfl, rfl⟩
  · have h2 : (l.length : Int) < id := by omega
    have h3 : 1 ≤ id := by omega
    clear hx h1
    go_enter Tryz.func103, Tryz.ntmps103
    go_wp2_with fail
    go_ret
    exact ⟨rfl, rfl⟩
set_option maxRecDepth 100000 in
set_option maxHeartbeats 1600000 in
theorem bufFind (S : Nat → Prop) (g b cap n : Nat) (l : List Tide.Req) (k : Nat) (w : World) (h : BAt 123 S w g (.slice (some ⟨b, 0, none⟩) n cap) l) (hk : k < l.length) :
    Calls Tryz.prog 103 #[.pointer (some ⟨g, 0, none⟩), .int .i64 (k + 1)] w fun e w' => e = .returned (.pointer (some ⟨b, k * 5, none⟩)) ∧ w = w' := by
  obtain ⟨A, cap', e, _, _, _⟩ := h.row.slice
  cases e
  have hc : w.cell? ⟨g, 0, none⟩ = some (.slice (some ⟨b, 0, none⟩) l.length cap) := h.head.here rfl
  have hs := h.small
  have h1 : (1 : Int) ≤ (k : Int) + 1 := by omega
  have h2 : (k : Int) + 1 ≤ (l.length : Int) := by omega
  have i0 : (0 : Int) ≤ (k : Int) := by omega
  have i1 : (k : Int) < (l.length : Int) := by omega
  clear h
  go_enter Tryz.func103, Tryz.ntmps103
  go_wp2_with fail
  go_ret
  exact ⟨by go_num, rfl⟩
set_option maxRecDepth 100000 in
set_option maxHeartbeats 1600000 in
theorem bufCount2 (S : Nat → Prop) (g : Nat) (v : Value) (l : List Tide.Req) (w : World) (h : BAt 123 S w g v l) :
    Calls Tryz.prog 92 #[.pointer (some ⟨g, 0, none⟩)] w (ReadPost w (.tuple #[.int .i64 (Tide.countF (-1) 1 l), .int .i64 (Tide.countF (-1) 2 l)])) := by
  have HH := Lib.hid h
  clear h
  go_enter Tryz.func92, Tryz.ntmps92
  go_wp2_with fail
  refine (bufCount S g _ l (-1) 1 _ HH.out).mono ?_
  rintro e w1 ⟨rfl, hb1⟩
  have HB1 := Lib.hid hb1
  clear hb1
  go_wp2_with fail
  refine (bufCount S g _ l (-1) 2 _ (HH.out.below HB1.out)).mono ?_
  rintro e w2 ⟨rfl, hb2⟩
  have HB2 := Lib.hid (HB1.out.trans (hb2.mono HB1.out.size))
  clear hb2
  go_wp2_with fail
  go_ret2
  exact ⟨rfl, HB2.out⟩
def BufAllPost (w : World) (l : List Tide.Req) (e : Ending) (w' : World) : Prop := ∃ v', e = .returned v' ∧ Tide.OwnRow (fun b => w.heap.size ≤ b) w' 45 5 v' l.length (l.flatMap Tide.Req.enc) ∧ Below w.heap.size w w'
set_option maxRecDepth 100000 in
set_option maxHeartbeats 1600000 in
theorem bufAll (S : Nat → Prop) (g : Nat) (v : Value) (l : List Tide.Req) (w : World) (h : BAt 123 S w g v l) :
    Calls Tryz.prog 24 #[.pointer (some ⟨g, 0, none⟩)] w (BufAllPost w l) := by
  obtain ⟨A, cap, rfl, _, _, _⟩ := h.row.slice
  have hc : w.cell? ⟨g, 0, none⟩ = some (.slice A l.length cap) := h.head.here rfl
  have HH := Lib.hid h
  clear h
  go_enter Tryz.func24, Tryz.ntmps24
  go_wp2_with fail
  refine (buf_clone S _ _ _ _ HH.out.row (by have := HH.out.small; omega) buf_one).mono ?_
  rintro e w2 ⟨v', rfl, h2, hb2⟩
  have HF := Lib.hid (show BufAllPost w l (.returned v') w2 from ⟨v', rfl, h2, hb2⟩)
  clear h2 hb2 hc
  go_wp2_with fail
  go_ret
  exact HF.out
theorem best_succ (l : List Tide.Req) (k : Nat) : (List.range (k + 1)).foldl (Tide.bestStep l) 0 = Tide.bestStep l ((List.range k).foldl (Tide.bestStep l) 0) k := by
  rw [List.range_succ, List.foldl_append]; rfl
set_option maxRecDepth 100000 in
set_option maxHeartbeats 1600000 in
theorem bufNext (S : Nat → Prop) (g : Nat) (v : Value) (l : List Tide.Req) (w : World) (h : BAt 123 S w g v l) :
    Calls Tryz.prog 96 #[.pointer (some ⟨g, 0, none⟩)] w (ReadPost w (.tuple #[.int .i64 (Tide.nextN l), .bool (decide (0 < Tide.nextN l))])) := by
  have HH := Lib.hid h
  clear h
  go_enter Tryz.func96, Tryz.ntmps96
  go_wp2_with fail
  go_loopw [4, 7] (fun m i wr => ∃ k : Nat, k ≤ 6 ∧ i = .int .i64 k ∧ m = .int .i64 ((List.range k).foldl (Tide.bestStep l) 0) ∧ Below w.heap.size w wr) (fun _ i _ => 6 - (intOf i).toNat)
  case atStart => exact ⟨0, by omega, rfl, rfl, Below.refl _ _⟩
  case round =>
    obtain ⟨k, hk, rfl, rfl, hb⟩ := hrel
    have HB := Lib.hid hb
    clear hb
    by_cases hlt : k < 6
    · have i1 : (k : Int) < 6 := by omega
      have HS := Lib.hid (best_succ l k)
      generalize (List.range k).foldl (Tide.bestStep l) 0 = best at HS ⊢
      go_wp2_with fail
      refine (bufFirst S g v l k _ (HH.out.below HB.out)).mono ?_
      rintro e w1 ⟨rfl, hb1⟩
      have HB1 := Lib.hid (HB.out.trans (hb1.mono HB.out.size))
      clear hb1
      have HU := Lib.hid (show Tide.bestStep l best k = if 0 < Tide.firstN l k ∧ (best = 0 ∨ Tide.firstN l k < best) then Tide.firstN l k else best from rfl)
      generalize Tide.firstN l k = f at HU ⊢
      by_cases q1 : 0 < f
      · by_cases q2 : best = 0
        · have HE := Lib.hid (show f = (List.range (k + 1)).foldl (Tide.bestStep l) 0 by rw [HS.out, HU.out, if_pos ⟨q1, .inl q2⟩])
          subst q2
          go_wp2_with fail
          go_roundw
          case rel => exact ⟨k + 1, by omega, by go_num, by rw [← HE.out], HB1.out⟩
          case measure => simp [intOf]; omega
        · by_cases q3 : f < best
          · have HE := Lib.hid (show f = (List.range (k + 1)).foldl (Tide.bestStep l) 0 by rw [HS.out, HU.out, if_pos ⟨q1, .inr q3⟩])
            go_wp2_with fail
            go_roundw
            case rel => exact ⟨k + 1, by omega, by go_num, by rw [← HE.out], HB1.out⟩
            case measure => simp [intOf]; omega
          · have HE := Lib.hid (show best = (List.range (k + 1)).foldl (Tide.bestStep l) 0 by rw [HS.out, HU.out, if_neg (by omega)])
            have q4 : ((best == 0) = true ∨ f < best) = False := by simp only [eq_iff_iff, iff_false, beq_iff_eq]; omega
            have q2b : (best == 0) = false := by simp only [beq_eq_false_iff_ne]; exact q2
            have q3' : best ≤ f := by omega
            clear q3
            go_wp2_with fail
            go_roundw
            case rel => exact ⟨k + 1, by omega, by go_num, by rw [← HE.out], HB1.out⟩
            case measure => simp [intOf]; omega
      · have HE := Lib.hid (show best = (List.range (k + 1)).foldl (Tide.bestStep l) 0 by rw [HS.out, HU.out, if_neg (by omega)])
        have q1' : f ≤ 0 := by omega
        clear q1
        go_wp2_with fail
        go_roundw
        case rel => exact ⟨k + 1, by omega, by go_num, by rw [← HE.out], HB1.out⟩
        case measure => simp [intOf]; omega
    · have hke : k = 6 := by omega
      subst hke
      have HF := Lib.hid (show ReadPost w (.tuple #[.int .i64 (Tide.nextN l), .bool (decide (0 < Tide.nextN l))]) (.returned (.tuple #[.int .i64 ((List.range 6).foldl (Tide.bestStep l) 0), .bool (decide (0 < (List.range 6).foldl (Tide.bestStep l) 0))])) wr from ⟨rfl, HB.out⟩)
      generalize (List.range 6).foldl (Tide.bestStep l) 0 = best at HF ⊢
      go_wp2_with fail
      go_ret2
      exact HF.out
open Go.RowKit
def RunPost (T : TypeId) (S : Nat → Prop) (w : World) (g : Nat) (l : List Tide.Req) (id pod : Int) (e : Ending) (w' : World) : Prop :=
  e = .returned (.int .i64 (Tide.runErr l id)) ∧ (∃ v, BAt T S w' g v (Tide.runLst l id pod)) ∧ Tide.Chg S w w'
set_option maxRecDepth 100000 in
set_option maxHeartbeats 3200000 in
theorem bufRun (S : Nat → Prop) (g : Nat) (v : Value) (l : List Tide.Req) (id pod : Int) (w : World) (h : BAt 123 S w g v l) :
    Calls Tryz.prog 98 #[.pointer (some ⟨g, 0, none⟩), .int .i64 id, .int .i64 pod] w (RunPost 123 S w g l id pod) := by
  have HH := Lib.hid h
  clear h
  cases hq : Tide.reqAt l id with
  | none =>
    have HF := Lib.hid (show RunPost 123 S w g l id pod (.returned (.int .i64 4)) w from ⟨by unfold Tide.runErr; rw [hq], ⟨v, by unfold Tide.runLst; rw [hq]; exact HH.out⟩, Tide.Chg.refl _ _⟩)
    have HQ := Lib.hid hq
    clear hq
    go_enter Tryz.func98, Tryz.ntmps98
    go_wp2_with fail
    refine (bufFind_none S g v l id _ HH.out HQ.out).mono ?_
    rintro e w1 ⟨rfl, rfl⟩
    go_wp2_with fail
    go_ret
    exact HF.out
  | some r =>
    obtain ⟨k, rfl, hr⟩ := reqAt_some hq
    obtain ⟨b, cap, rfl, hS, _, _, hbl, c0, c1, c2, c3, c4, fz⟩ := HH.out.req hr
    have hkl := Tide.get_lt hr
    have HR := Lib.hid hr; have HQ := Lib.hid hq; have HK := Lib.hid hkl
    clear hr hq hkl c0 c2 c3 c4 fz hbl
    go_enter Tryz.func98, Tryz.ntmps98
    go_wp2_with fail
    refine (bufFind S g b cap _ l k _ HH.out HK.out).mono ?_
    rintro e w1 ⟨rfl, rfl⟩
    go_wp2_with fail
    refine (bufFirst S g _ l r.source _ HH.out).mono ?_
    rintro e w1 ⟨rfl, hb1⟩
    have HB1 := Lib.hid hb1
    clear hb1 c1
    by_cases hf : Tide.firstN l r.source = (k : Int) + 1
    · have HF := Lib.hid hf
      obtain ⟨b', cap', e, hS', _, _, hbl, c0, c1, c2, c3, c4, fz⟩ := (HH.out.below HB1.out).req HR.out
      cases e
      have f3 := fz (k * 5 + 3); have f4 := fz (k * 5 + 4)
      clear fz c0 c1 c2
      rw [hf]
      clear hf
      go_wp2_with fail
      go_ret
      obtain ⟨p1, p2⟩ := (HH.out.below HB1.out).put (by decide) (k := k) (j := 3) (r' := { r with fate := 2 }) (u := .int .i64 2) HR.out (by decide) rfl
      obtain ⟨p3, p4⟩ := p1.put (by decide) (k := k) (j := 4) (r' := { r with fate := 2, pod := pod }) (u := .int .i64 pod) (List.getElem?_set_self HK.out) (by decide) rfl
      rw [List.set_set] at p3
      refine ⟨?_, ⟨.slice (some ⟨b, 0, none⟩) l.length cap, ?_⟩, ((Tide.Chg.of_below HB1.out (Nat.le_refl _)).trans p2).trans p4⟩
      · unfold Tide.runErr; rw [HQ.out]; simp only; rw [if_pos HF.out]; rfl
      · unfold Tide.runLst; rw [HQ.out]; simp only; rw [if_pos HF.out, show ((k : Int) + 1 - 1).toNat = k by omega]; exact p3
    · have HF := Lib.hid (show RunPost 123 S w g l ((k : Int) + 1) pod (.returned (.int .i64 7)) w1 from ⟨by unfold Tide.runErr; rw [HQ.out]; simp only; rw [if_neg hf], ⟨_, by unfold Tide.runLst; rw [HQ.out]; simp only; rw [if_neg hf]; exact HH.out.below HB1.out⟩, Tide.Chg.of_below HB1.out (Nat.le_refl _)⟩)
      generalize Tide.firstN l r.source = f at hf ⊢
      have hf2 : ((k : Int) + 1 == f) = false := by simp only [beq_eq_false_iff_ne]; exact fun e => hf e.symm
      have hf3 : (f == (k : Int) + 1) = false := by simp only [beq_eq_false_iff_ne]; exact hf
      go_wp2_with fail
      go_ret
      exact HF.out
def DonePost (T : TypeId) (S : Nat → Prop) (w : World) (g : Nat) (l : List Tide.Req) (id : Int) (e : Ending) (w' : World) : Prop :=
  e = .returned (.tuple #[.int .i64 (Tide.doneNum l id), .int .i64 (Tide.doneErr l id)]) ∧ (∃ v, BAt T S w' g v (Tide.doneLst l id)) ∧ Tide.Chg S w w'
set_option maxRecDepth 100000 in
set_option maxHeartbeats 3200000 in
theorem bufDone (S : Nat → Prop) (g : Nat) (v : Value) (l : List Tide.Req) (id : Int) (w : World) (h : BAt 123 S w g v l) :
    Calls Tryz.prog 75 #[.pointer (some ⟨g, 0, none⟩), .int .i64 id] w (DonePost 123 S w g l id) := by
  have HH := Lib.hid h
  clear h
  cases hq : Tide.reqAt l id with
  | none =>
    have HF := Lib.hid (show DonePost 123 S w g l id (.returned (.tuple #[.int .i64 0, .int .i64 4])) w from ⟨by unfold Tide.doneErr Tide.doneNum; rw [hq], ⟨v, by unfold Tide.doneLst; rw [hq]; exact HH.out⟩, Tide.Chg.refl _ _⟩)
    have HQ := Lib.hid hq
    clear hq
    go_enter Tryz.func75, Tryz.ntmps75
    go_wp2_with fail
    refine (bufFind_none S g v l id _ HH.out HQ.out).mono ?_
    rintro e w1 ⟨rfl, rfl⟩
    go_wp2_with fail
    go_ret2
    exact HF.out
  | some r =>
    obtain ⟨k, rfl, hr⟩ := reqAt_some hq
    obtain ⟨b, cap, rfl, hS, _, _, hbl, c0, c1, c2, c3, c4, fz⟩ := HH.out.req hr
    have hkl := Tide.get_lt hr
    have f3 := fz (k * 5 + 3)
    have HR := Lib.hid hr; have HQ := Lib.hid hq; have HK := Lib.hid hkl
    clear hr hq hkl c0 c1 c2 fz hbl
    go_enter Tryz.func75, Tryz.ntmps75
    go_wp2_with fail
    refine (bufFind S g b cap _ l k _ HH.out HK.out).mono ?_
    rintro e w1 ⟨rfl, rfl⟩
    by_cases hf : r.fate = 2
    · have HF := Lib.hid hf
      rw [hf] at c3
      clear hf
      go_wp2_with fail
      go_ret2
      obtain ⟨p1, p2⟩ := HH.out.put (by decide) (k := k) (j := 3) (r' := { r with fate := 3 }) (u := .int .i64 3) HR.out (by decide) rfl
      refine ⟨?_, ⟨.slice (some ⟨b, 0, none⟩) l.length cap, ?_⟩, p2⟩
      · unfold Tide.doneErr Tide.doneNum; rw [HQ.out]; simp only; rw [if_pos HF.out, if_pos HF.out]; rfl
      · unfold Tide.doneLst; rw [HQ.out]; simp only; rw [if_pos HF.out, show ((k : Int) + 1 - 1).toNat = k by omega]; exact p1
    · have HF := Lib.hid (show DonePost 123 S w g l ((k : Int) + 1) (.returned (.tuple #[.int .i64 0, .int .i64 7])) w from ⟨by unfold Tide.doneErr Tide.doneNum; rw [HQ.out]; simp only; rw [if_neg hf, if_neg hf], ⟨_, by unfold Tide.doneLst; rw [HQ.out]; simp only; rw [if_neg hf]; exact HH.out⟩, Tide.Chg.refl _ _⟩)
      have hf3 : (r.fate == 2) = false := by simp only [beq_eq_false_iff_ne]; exact hf
      go_wp2_with fail
      go_ret2
      exact HF.out
open Go.RowKit
theorem bufInt_info : (Tryz.prog.info? 3).map (fun i => (i.zero, i.size, i.bytes)) = some (some (.int .i64 0), 1, 8) := by kernel_rfl
def EndPost (T : TypeId) (S : Nat → Prop) (w : World) (g : Nat) (v : Value) (l : List Tide.Req) (p : Tide.Req → Bool) (fate : Int) (e : Ending) (w' : World) : Prop :=
  ∃ v', e = .returned v' ∧ Tide.OwnRow (fun b => w.heap.size ≤ b) w' 3 1 v' (Tide.idsF p l).length ((Tide.idsF p l).map (.int .i64)) ∧ BAt T S w' g v (l.map (Tide.setF p fate)) ∧ Tide.Chg S w w'
structure EndMid (T : TypeId) (S : Nat → Prop) (w wr : World) (g : Nat) (v : Value) (lb : List Tide.Req) (ids : List Int) (o : Value) : Prop where
  buf : BAt T S wr g v lb
  out : Tide.OwnRow (fun b => w.heap.size ≤ b) wr 3 1 o ids.length (ids.map (.int .i64))
  chg : Tide.Chg S w wr
  low : ∀ b, S b → b < w.heap.size
theorem EndMid.alloc {T : TypeId} {S : Nat → Prop} {w wr : World} {g : Nat} {v : Value} {lb : List Tide.Req} {ids : List Int} {o : Value} (h : EndMid T S w wr g v lb ids o) (ob : Obj) : EndMid T S w (wr.alloc ob) g v lb ids o :=
  ⟨h.buf.alloc ob, h.out.alloc ob, h.chg.alloc ob, h.low⟩
theorem EndMid.below {T : TypeId} {S : Nat → Prop} {w wr w1 : World} {g : Nat} {v : Value} {lb : List Tide.Req} {ids : List Int} {o : Value} (h : EndMid T S w wr g v lb ids o) (hb : Below wr.heap.size wr w1) : EndMid T S w w1 g v lb ids o :=
  ⟨h.buf.below hb, h.out.below hb (Nat.le_refl _), h.chg.step_below hb h.chg.size, h.low⟩
def EndRun (T : TypeId) (S : Nat → Prop) (w wr : World) (g : Nat) (v : Value) (l : List Tide.Req) (p : Tide.Req → Bool) (fate : Int) (k : Nat) (o : Value) : Prop :=
  EndMid T S w wr g v (Tide.upTo (Tide.setF p fate) l k) (Tide.idsF p (l.take k)) o
theorem EndRun.start {T : TypeId} {S : Nat → Prop} {w : World} {g : Nat} {v : Value} {l : List Tide.Req} {p : Tide.Req → Bool} {fate : Int} (h : BAt T S w g v l) : EndRun T S w w g v l p fate 0 (.slice none 0 0) :=
  ⟨by rw [Tide.upTo_zero]; exact h, Tide.OwnRow.nil _ _ _ _, Tide.Chg.refl _ _, h.lim⟩
theorem EndRun.done {T : TypeId} {S : Nat → Prop} {w wr : World} {g : Nat} {v : Value} {l : List Tide.Req} {p : Tide.Req → Bool} {fate : Int} {o : Value} (h : EndRun T S w wr g v l p fate l.length o) : EndPost T S w g v l p fate (.returned o) wr := by
  have hb := h.buf; have ho := h.out
  rw [Tide.upTo_all] at hb
  rw [List.take_length] at ho
  exact ⟨o, rfl, ho, hb, h.chg⟩
theorem idsF_no {p : Tide.Req → Bool} {l : List Tide.Req} {k : Nat} {r : Tide.Req} (hr : l[k]? = some r) (hp : p r = false) : Tide.idsF p (l.take (k + 1)) = Tide.idsF p (l.take k) := by
  unfold Tide.idsF; rw [Tide.filter_snoc hr, hp]; simp
theorem idsF_yes {p : Tide.Req → Bool} {l : List Tide.Req} {k : Nat} {r : Tide.Req} (hr : l[k]? = some r) (hp : p r = true) : Tide.idsF p (l.take (k + 1)) = Tide.idsF p (l.take k) ++ [r.id] := by
  unfold Tide.idsF; rw [Tide.filter_snoc hr, hp]; simp
theorem idsF_le (p : Tide.Req → Bool) (l : List Tide.Req) (k : Nat) : (Tide.idsF p (l.take k)).length ≤ l.length := by
  unfold Tide.idsF; rw [List.length_map]
  exact Nat.le_trans (List.length_filter_le _ _) (by rw [List.length_take]; omega)
theorem EndMid.skip {T : TypeId} {S : Nat → Prop} {w wr : World} {g : Nat} {v : Value} {l : List Tide.Req} {p : Tide.Req → Bool} {fate : Int} {k : Nat} {o : Value} {r : Tide.Req} (h : EndMid T S w wr g v (Tide.upTo (Tide.setF p fate) l k) (Tide.idsF p (l.take k)) o) (hr : l[k]? = some r) (hp : p r = false) : EndRun T S w wr g v l p fate (k + 1) o := by
  unfold EndRun
  rw [idsF_no hr hp, Tide.upTo_same hr (by unfold Tide.setF; rw [hp]; rfl)]
  exact h
theorem EndMid.put {T : TypeId} {S : Nat → Prop} {w wr : World} {g b cap n : Nat} {l : List Tide.Req} {p : Tide.Req → Bool} {fate : Int} {k : Nat} {ids : List Int} {o : Value} {r : Tide.Req} (h : EndMid T S w wr g (.slice (some ⟨b, 0, none⟩) n cap) (Tide.upTo (Tide.setF p fate) l k) ids o) (hT : T ≠ 45) (hr : l[k]? = some r) (hp : p r = true) :
    EndMid T S w (wr.setCell ⟨b, k * 5 + 3, none⟩ (.int .i64 fate)) g (.slice (some ⟨b, 0, none⟩) n cap) (Tide.upTo (Tide.setF p fate) l (k + 1)) ids o := by
  obtain ⟨p1, p2⟩ := h.buf.put hT (k := k) (j := 3) (r' := { r with fate := fate }) (u := .int .i64 fate) ((Tide.upTo_get _ _ _).trans hr) (by decide) rfl
  have e : (Tide.upTo (Tide.setF p fate) l k).set k { r with fate := fate } = Tide.upTo (Tide.setF p fate) l (k + 1) := by
    rw [← Tide.upTo_succ hr]; unfold Tide.setF; rw [hp]; rfl
  rw [e] at p1
  obtain ⟨b', cap', e', hS, _⟩ := h.buf.row.form (by rw [Tide.upTo_length]; have := Tide.get_lt hr; omega)
  cases e'
  exact ⟨p1, h.out.other (p := ⟨b, k * 5 + 3, none⟩) (by have := h.low b hS; simp; omega) _, h.chg.trans p2, h.low⟩
theorem EndMid.app {T : TypeId} {S : Nat → Prop} {w wr w3 : World} {g b2 cap2 : Nat} {v : Value} {l : List Tide.Req} {p : Tide.Req → Bool} {fate : Int} {k : Nat} {o : Value} {r : Tide.Req} {ob : Obj} (h : EndMid T S w wr g v (Tide.upTo (Tide.setF p fate) l (k + 1)) (Tide.idsF p (l.take k)) o) (hr : l[k]? = some r) (hp : p r = true)
    (h1 : w3.ownsRow 0 3 1 (.slice (some ⟨b2, 0, none⟩) ((Tide.idsF p (l.take k)).length + 1) cap2) ((Tide.idsF p (l.take k)).length + 1) ((Tide.idsF p (l.take k)).map (.int .i64) ++ [.int .i64 r.id])) (hg : (wr.alloc ob).grownBy w3 o.ownBlock) (ho : o.ownBlock = some b2 ∨ b2 = wr.heap.size + 1) (hlt : b2 < w3.heap.size) :
    EndRun T S w w3 g v l p fate (k + 1) (.slice (some ⟨b2, 0, none⟩) ((Tide.idsF p (l.take k)).length + 1) cap2) := by
  have z : (wr.alloc ob).heap.size = wr.heap.size + 1 := by simp
  have z1 := h.chg.size
  obtain ⟨r1, r2⟩ := (h.out.alloc ob).app h1 hg (ho.imp id (fun e => by rw [e, z])) hlt
  unfold EndRun
  refine ⟨(h.buf.alloc ob).chg r2 (fun b hb hn => by have := h.low b hb; omega), ?_, (h.chg.alloc ob).step r2 (fun b hb => .inr hb), h.low⟩
  rw [idsF_yes hr hp, List.length_append, List.map_append]
  refine r1.mono fun c _ hc => ?_
  rcases hc with hc | hc
  · exact hc
  · omega
/- end with the function (*buffer.Buffer).Late$1 -/
set_option maxRecDepth 100000 in
set_option maxHeartbeats 6400000 in
theorem bufLate_end (B : Nat) (p : Tide.Req → Bool) (fate : Int) (S : Nat → Prop) (g : Nat) (v : Value) (l : List Tide.Req) (w : World) (h : BAt 123 S w g v l)
    (hp : ∀ (r : Tide.Req) (W : World), Tide.Chg S w W → Calls Tryz.prog 90 #[.agg #[.int .i64 r.id, .int .i64 r.source, .int .i64 r.till, .int .i64 r.fate, .int .i64 r.pod], .pointer (some ⟨B, 0, none⟩)] W fun e W' => e = .returned (.bool (p r)) ∧ Below W.heap.size W W') :
    Calls Tryz.prog 89 #[.pointer (some ⟨g, 0, none⟩), .int .i64 fate, .func (.func 90) #[] #[.pointer (some ⟨B, 0, none⟩)]] w (EndPost 123 S w g v l p fate) := by
  obtain ⟨A, cap0, rfl, _, _, _⟩ := h.row.slice
  have hc : w.cell? ⟨g, 0, none⟩ = some (.slice A l.length cap0) := h.head.here rfl
  have hs := h.small
  have HH := Lib.hid h; have HP := Lib.hid hp
  clear h hp
  obtain ⟨i0, hi, hz0, hz1, hz2⟩ := info_parts bufInt_info
  go_enter Tryz.func89, Tryz.ntmps89
  go_wp2_with fail
  go_loopw [7, 15] (fun o i wr => ∃ k : Nat, k ≤ l.length ∧ i = .int .i64 k ∧ EndRun 123 S w wr g (.slice A l.length cap0) l p fate k o) (fun _ i _ => l.length - (intOf i).toNat)
  case atStart => exact ⟨0, by omega, rfl, EndRun.start HH.out⟩
  case round =>
    clear hc
    obtain ⟨k, hk, rfl, hr0⟩ := hrel
    obtain ⟨A7, c7, rfl, _, _, _⟩ := EndMid.out hr0 |>.slice
    have HR0 := Lib.hid hr0
    clear hr0
    by_cases hlt : k < l.length
    · obtain ⟨r, hr⟩ := Tide.get_some l hlt
      obtain ⟨b, cap', e, hS, _, _, hbl, c0, c1, c2, c3, c4, _⟩ := HR0.out.buf.req ((Tide.upTo_get _ _ _).trans hr)
      rw [Tide.upTo_length] at e
      cases e
      have i0' : (0 : Int) ≤ (k : Int) := by omega
      have i1 : (k : Int) < (l.length : Int) := by omega
      have HR1 := Lib.hid (HR0.out.alloc (.cells #[.int .i64 r.id, .int .i64 r.source, .int .i64 r.till, .int .i64 r.fate, .int .i64 r.pod] 45))
      have HX := Lib.hid (Tide.At.made wr 45 #[.int .i64 r.id, .int .i64 r.source, .int .i64 r.till, .int .i64 r.fate, .int .i64 r.pod])
      have HR := Lib.hid hr
      clear hr
      go_wp2_with fail
      refine (HP.out r _ HR1.out.chg).mono ?_
      rintro e w1 ⟨rfl, hb1⟩
      have HR2 := Lib.hid (HR1.out.below hb1)
      have hX := HX.out.below hb1 (by simp)
      have x0 := hX.here (i := 0) rfl
      have HX1 := Lib.hid hX
      clear hX hb1 c0 c1 c2 c3 c4 hbl
      cases hpm : p r
      · have HN := Lib.hid (HR2.out.skip HR.out hpm)
        clear x0
        go_wp2_with fail
        go_roundw
        case rel => exact ⟨k + 1, by omega, by go_num, HN.out⟩
        case measure => simp [intOf]; omega
      · have hc : w1.cell? ⟨g, 0, none⟩ = some (.slice (some ⟨b, 0, none⟩) l.length cap0) := HR2.out.buf.head.here rfl
        obtain ⟨b', cap', e, hS', _, _, hbl, c0, c1, c2, c3, c4, fz⟩ := HR2.out.buf.req ((Tide.upTo_get _ _ _).trans HR.out)
        rw [Tide.upTo_length] at e
        cases e
        have f3 := fz (k * 5 + 3)
        clear c0 c1 c2 c4 fz x0
        have HQ := Lib.hid (HR2.out.put (fate := fate) (by decide) HR.out hpm)
        have HXp := Lib.hid (HX1.out.other (p := ⟨b, k * 5 + 3, none⟩) (by
          have := HR0.out.buf.lim b hS'
          intro e; simp at e; omega) (.int .i64 fate))
        have HS' := Lib.hid hS'
        go_upto_region 7 with fail
        generalize w1.setCell ⟨b, k * 5 + 3, none⟩ (.int .i64 fate) = w2 at HQ HXp ⊢
        have x0' := HXp.out.here (i := 0) rfl
        clear hc c3 f3 hbl
        have hle := idsF_le p l (k + 1)
        have hle0 := idsF_le p l k
        have hm3 := Lib.hid (show (Tide.idsF p (l.take k)).length + 1 ≤ maxLen by simp only [maxLen]; omega)
        have hm4 := Lib.hid (show ((Tide.idsF p (l.take k)).length + 1) * 8 ≤ 140737488355328 by omega)
        clear hle hle0
        go_wp2_with (at_builtin; refine wpList_append_lies _ (by rfl) (.tmp 31) (.tmp 34) 99 (by rfl) 0 3 i0 (.int .i64 0) 1 8 Tryz.underlying99 hi hz0 hz1 hz2 rfl (by decide) (.slice A7 (Tide.idsF p (l.take k)).length c7) _ _ rfl (HQ.out.out.alloc _).owns ⟨w2.heap.size, 0, none⟩ 1 1 [.int .i64 r.id] rfl rfl (buf_cells_in rfl) (by simp [Value.oneCell']) (by decide) hm3.out hm4.out (Nat.zero_le _) _ rfl ?_)
        intro b2 cap2 w3 hown hg ho hlt2
        have HN := Lib.hid (HQ.out.app HR.out hpm hown hg ho hlt2)
        clear hown hg ho hlt2 x0'
        go_wp2_with fail
        go_roundw
        case rel => exact ⟨k + 1, by omega, by go_num, HN.out⟩
        case measure => simp [intOf]; omega
    · have hke : k = l.length := by omega
      subst hke
      have HF := Lib.hid HR0.out.done
      go_wp2_with fail
      go_ret
      exact HF.out
/- end with the function (*buffer.Buffer).Lost$1 -/
set_option maxRecDepth 100000 in
set_option maxHeartbeats 6400000 in
theorem bufLost_end (B : Nat) (p : Tide.Req → Bool) (fate : Int) (S : Nat → Prop) (g : Nat) (v : Value) (l : List Tide.Req) (w : World) (h : BAt 123 S w g v l)
    (hp : ∀ (r : Tide.Req) (W : World), Tide.Chg S w W → Calls Tryz.prog 102 #[.agg #[.int .i64 r.id, .int .i64 r.source, .int .i64 r.till, .int .i64 r.fate, .int .i64 r.pod], .pointer (some ⟨B, 0, none⟩)] W fun e W' => e = .returned (.bool (p r)) ∧ Below W.heap.size W W') :
    Calls Tryz.prog 89 #[.pointer (some ⟨g, 0, none⟩), .int .i64 fate, .func (.func 102) #[] #[.pointer (some ⟨B, 0, none⟩)]] w (EndPost 123 S w g v l p fate) := by
  obtain ⟨A, cap0, rfl, _, _, _⟩ := h.row.slice
  have hc : w.cell? ⟨g, 0, none⟩ = some (.slice A l.length cap0) := h.head.here rfl
  have hs := h.small
  have HH := Lib.hid h; have HP := Lib.hid hp
  clear h hp
  obtain ⟨i0, hi, hz0, hz1, hz2⟩ := info_parts bufInt_info
  go_enter Tryz.func89, Tryz.ntmps89
  go_wp2_with fail
  go_loopw [7, 15] (fun o i wr => ∃ k : Nat, k ≤ l.length ∧ i = .int .i64 k ∧ EndRun 123 S w wr g (.slice A l.length cap0) l p fate k o) (fun _ i _ => l.length - (intOf i).toNat)
  case atStart => exact ⟨0, by omega, rfl, EndRun.start HH.out⟩
  case round =>
    clear hc
    obtain ⟨k, hk, rfl, hr0⟩ := hrel
    obtain ⟨A7, c7, rfl, _, _, _⟩ := EndMid.out hr0 |>.slice
    have HR0 := Lib.hid hr0
    clear hr0
    by_cases hlt : k < l.length
    · obtain ⟨r, hr⟩ := Tide.get_some l hlt
      obtain ⟨b, cap', e, hS, _, _, hbl, c0, c1, c2, c3, c4, _⟩ := HR0.out.buf.req ((Tide.upTo_get _ _ _).trans hr)
      rw [Tide.upTo_length] at e
      cases e
      have i0' : (0 : Int) ≤ (k : Int) := by omega
      have i1 : (k : Int) < (l.length : Int) := by omega
      have HR1 := Lib.hid (HR0.out.alloc (.cells #[.int .i64 r.id, .int .i64 r.source, .int .i64 r.till, .int .i64 r.fate, .int .i64 r.pod] 45))
      have HX := Lib.hid (Tide.At.made wr 45 #[.int .i64 r.id, .int .i64 r.source, .int .i64 r.till, .int .i64 r.fate, .int .i64 r.pod])
      have HR := Lib.hid hr
      clear hr
      go_wp2_with fail
      refine (HP.out r _ HR1.out.chg).mono ?_
      rintro e w1 ⟨rfl, hb1⟩
      have HR2 := Lib.hid (HR1.out.below hb1)
      have hX := HX.out.below hb1 (by simp)
      have x0 := hX.here (i := 0) rfl
      have HX1 := Lib.hid hX
      clear hX hb1 c0 c1 c2 c3 c4 hbl
      cases hpm : p r
      · have HN := Lib.hid (HR2.out.skip HR.out hpm)
        clear x0
        go_wp2_with fail
        go_roundw
        case rel => exact ⟨k + 1, by omega, by go_num, HN.out⟩
        case measure => simp [intOf]; omega
      · have hc : w1.cell? ⟨g, 0, none⟩ = some (.slice (some ⟨b, 0, none⟩) l.length cap0) := HR2.out.buf.head.here rfl
        obtain ⟨b', cap', e, hS', _, _, hbl, c0, c1, c2, c3, c4, fz⟩ := HR2.out.buf.req ((Tide.upTo_get _ _ _).trans HR.out)
        rw [Tide.upTo_length] at e
        cases e
        have f3 := fz (k * 5 + 3)
        clear c0 c1 c2 c4 fz x0
        have HQ := Lib.hid (HR2.out.put (fate := fate) (by decide) HR.out hpm)
        have HXp := Lib.hid (HX1.out.other (p := ⟨b, k * 5 + 3, none⟩) (by
          have := HR0.out.buf.lim b hS'
          intro e; simp at e; omega) (.int .i64 fate))
        have HS' := Lib.hid hS'
        go_upto_region 7 with fail
        generalize w1.setCell ⟨b, k * 5 + 3, none⟩ (.int .i64 fate) = w2 at HQ HXp ⊢
        have x0' := HXp.out.here (i := 0) rfl
        clear hc c3 f3 hbl
        have hle := idsF_le p l (k + 1)
        have hle0 := idsF_le p l k
        have hm3 := Lib.hid (show (Tide.idsF p (l.take k)).length + 1 ≤ maxLen by simp only [maxLen]; omega)
        have hm4 := Lib.hid (show ((Tide.idsF p (l.take k)).length + 1) * 8 ≤ 140737488355328 by omega)
        clear hle hle0
        go_wp2_with (at_builtin; refine wpList_append_lies _ (by rfl) (.tmp 31) (.tmp 34) 99 (by rfl) 0 3 i0 (.int .i64 0) 1 8 Tryz.underlying99 hi hz0 hz1 hz2 rfl (by decide) (.slice A7 (Tide.idsF p (l.take k)).length c7) _ _ rfl (HQ.out.out.alloc _).owns ⟨w2.heap.size, 0, none⟩ 1 1 [.int .i64 r.id] rfl rfl (buf_cells_in rfl) (by simp [Value.oneCell']) (by decide) hm3.out hm4.out (Nat.zero_le _) _ rfl ?_)
        intro b2 cap2 w3 hown hg ho hlt2
        have HN := Lib.hid (HQ.out.app HR.out hpm hown hg ho hlt2)
        clear hown hg ho hlt2 x0'
        go_wp2_with fail
        go_roundw
        case rel => exact ⟨k + 1, by omega, by go_num, HN.out⟩
        case measure => simp [intOf]; omega
    · have hke : k = l.length := by omega
      subst hke
      have HF := Lib.hid HR0.out.done
      go_wp2_with fail
      go_ret
      exact HF.out
open Go.RowKit
set_option maxRecDepth 100000 in
set_option maxHeartbeats 1600000 in
theorem bufLate1 (B : Nat) (now : Int) (r : Tide.Req) (W : World) (h : Tide.At W B 3 #[.int .i64 now]) :
    Calls Tryz.prog 90 #[.agg #[.int .i64 r.id, .int .i64 r.source, .int .i64 r.till, .int .i64 r.fate, .int .i64 r.pod], .pointer (some ⟨B, 0, none⟩)] W fun e W' => e = .returned (.bool (Tide.isLate now r)) ∧ Below W.heap.size W W' := by
  have hB := Lib.hid ((Below.refl W.heap.size W).alloc (Nat.le_refl _) (.cells #[.int .i64 r.id, .int .i64 r.source, .int .i64 r.till, .int .i64 r.fate, .int .i64 r.pod] 45))
  have hc : (W.alloc (.cells #[.int .i64 r.id, .int .i64 r.source, .int .i64 r.till, .int .i64 r.fate, .int .i64 r.pod] 45)).cell? ⟨B, 0, none⟩ = some (.int .i64 now) := (h.alloc _).here (i := 0) rfl
  have hc0 : W.cell? ⟨B, 0, none⟩ = some (.int .i64 now) := h.here (i := 0) rfl
  clear h
  cases hf : (r.fate == 1)
  · have HT := Lib.hid (show Tide.isLate now r = false by unfold Tide.isLate; rw [hf]; rfl)
    go_enter Tryz.func90, Tryz.ntmps90
    go_wp2_with fail
    go_ret
    exact ⟨by rw [HT.out] <;> rfl, hB.out⟩
  · by_cases ht : r.till ≤ now
    · have HT := Lib.hid (show Tide.isLate now r = true by unfold Tide.isLate; rw [hf]; simp [ht])
      go_enter Tryz.func90, Tryz.ntmps90
      go_wp2_with fail
      go_ret
      exact ⟨by rw [HT.out] <;> rfl, hB.out⟩
    · have HT := Lib.hid (show Tide.isLate now r = decide (r.till ≤ now) by unfold Tide.isLate; rw [hf]; rfl)
      clear ht
      go_enter Tryz.func90, Tryz.ntmps90
      go_wp2_with fail
      go_ret
      exact ⟨by rw [HT.out] <;> rfl, hB.out⟩
set_option maxRecDepth 100000 in
set_option maxHeartbeats 1600000 in
theorem bufLost1 (B : Nat) (pod : Int) (r : Tide.Req) (W : World) (h : Tide.At W B 3 #[.int .i64 pod]) :
    Calls Tryz.prog 102 #[.agg #[.int .i64 r.id, .int .i64 r.source, .int .i64 r.till, .int .i64 r.fate, .int .i64 r.pod], .pointer (some ⟨B, 0, none⟩)] W fun e W' => e = .returned (.bool (Tide.isLost pod r)) ∧ Below W.heap.size W W' := by
  have hB := Lib.hid ((Below.refl W.heap.size W).alloc (Nat.le_refl _) (.cells #[.int .i64 r.id, .int .i64 r.source, .int .i64 r.till, .int .i64 r.fate, .int .i64 r.pod] 45))
  have hc : (W.alloc (.cells #[.int .i64 r.id, .int .i64 r.source, .int .i64 r.till, .int .i64 r.fate, .int .i64 r.pod] 45)).cell? ⟨B, 0, none⟩ = some (.int .i64 pod) := (h.alloc _).here (i := 0) rfl
  have hc0 : W.cell? ⟨B, 0, none⟩ = some (.int .i64 pod) := h.here (i := 0) rfl
  clear h
  cases hf : (r.fate == 2)
  · have HT := Lib.hid (show Tide.isLost pod r = false by unfold Tide.isLost; rw [hf]; rfl)
    go_enter Tryz.func102, Tryz.ntmps102
    go_wp2_with fail
    go_ret
    exact ⟨by rw [HT.out] <;> rfl, hB.out⟩
  · cases ht : (r.pod == pod)
    · have HT := Lib.hid (show Tide.isLost pod r = false by unfold Tide.isLost; rw [hf, ht]; rfl)
      go_enter Tryz.func102, Tryz.ntmps102
      go_wp2_with fail
      go_ret
      exact ⟨by rw [HT.out] <;> rfl, hB.out⟩
    · have HT := Lib.hid (show Tide.isLost pod r = true by unfold Tide.isLost; rw [hf, ht]; rfl)
      go_enter Tryz.func102, Tryz.ntmps102
      go_wp2_with fail
      go_ret
      exact ⟨by rw [HT.out] <;> rfl, hB.out⟩
def LatePost (T : TypeId) (S : Nat → Prop) (w : World) (g : Nat) (v : Value) (l : List Tide.Req) (now : Int) (e : Ending) (w' : World) : Prop :=
  ∃ v', e = .returned (.tuple #[v', .int .i64 (Tide.lateErr now)]) ∧ Tide.OwnRow (fun b => w.heap.size ≤ b) w' 3 1 v' (Tide.lateIds l now).length ((Tide.lateIds l now).map (.int .i64)) ∧ BAt T S w' g v (Tide.lateLst l now) ∧ Tide.Chg S w w'
theorem late_no {T : TypeId} {S : Nat → Prop} {w w' : World} {g : Nat} {v : Value} {l : List Tide.Req} {now : Int} (h : BAt T S w' g v l) (hb : Below w.heap.size w w') (hn : Tide.timeOk now = false) : LatePost T S w g v l now (.returned (.tuple #[.slice none 0 0, .int .i64 1])) w' := by
  refine ⟨.slice none 0 0, by unfold Tide.lateErr; rw [hn]; rfl, ?_, ?_, Tide.Chg.of_below hb (Nat.le_refl _)⟩
  · unfold Tide.lateIds; rw [hn]; exact Tide.OwnRow.nil _ _ _ _
  · unfold Tide.lateLst; rw [hn]; exact h
theorem late_yes {T : TypeId} {S : Nat → Prop} {w w' : World} {ob : Obj} {g : Nat} {v v' : Value} {l : List Tide.Req} {now : Int} (hn : Tide.timeOk now = true) (ho : Tide.OwnRow (fun b => (w.alloc ob).heap.size ≤ b) w' 3 1 v' (Tide.idsF (Tide.isLate now) l).length ((Tide.idsF (Tide.isLate now) l).map (.int .i64))) (hb : BAt T S w' g v (l.map (Tide.setF (Tide.isLate now) 4))) (hc : Tide.Chg S (w.alloc ob) w') : LatePost T S w g v l now (.returned (.tuple #[v', .int .i64 0])) w' := by
  refine ⟨v', by unfold Tide.lateErr; rw [hn]; rfl, ?_, ?_, ((Tide.Chg.refl S w).alloc ob).trans hc⟩
  · unfold Tide.lateIds; rw [hn]; exact ho.mono fun b _ hb => by simp at hb; omega
  · unfold Tide.lateLst; rw [hn]; exact hb
set_option maxRecDepth 100000 in
set_option maxHeartbeats 3200000 in
theorem bufLate (S : Nat → Prop) (g : Nat) (v : Value) (l : List Tide.Req) (now : Int) (w : World) (h : BAt 123 S w g v l) :
    Calls Tryz.prog 61 #[.pointer (some ⟨g, 0, none⟩), .int .i64 now] w (LatePost 123 S w g v l now) := by
  have HH := Lib.hid (h.alloc (.cells #[.int .i64 now] 3))
  have HL := Lib.hid h.lim
  have HB := Lib.hid ((Below.refl w.heap.size w).alloc (Nat.le_refl _) (.cells #[.int .i64 now] 3))
  have HX := Lib.hid (Tide.At.made w 3 #[.int .i64 now])
  clear h
  by_cases h1 : now < 0
  · have HF := Lib.hid (late_no HH.out HB.out (show Tide.timeOk now = false by unfold Tide.timeOk; simp; omega))
    go_enter Tryz.func61, Tryz.ntmps61
    go_wp2_with fail
    go_ret2
    exact HF.out
  have h1' : 0 ≤ now := by omega
  clear h1
  by_cases h2 : 1099511627776 < now
  · have HF := Lib.hid (late_no HH.out HB.out (show Tide.timeOk now = false by unfold Tide.timeOk; simp; omega))
    go_enter Tryz.func61, Tryz.ntmps61
    go_wp2_with fail
    go_ret2
    exact HF.out
  have h2' : now ≤ 1099511627776 := by omega
  clear h2
  have HT := Lib.hid (show Tide.timeOk now = true by unfold Tide.timeOk; simp; omega)
  go_enter Tryz.func61, Tryz.ntmps61
  go_wp2_with fail
  refine (bufLate_end w.heap.size (Tide.isLate now) 4 S g v l _ HH.out (fun r W hW => bufLate1 _ now r W (HX.out.chg hW (fun hs => Nat.lt_irrefl _ (HL.out _ hs))))).mono ?_
  rintro e w1 ⟨v', rfl, ho, hb, hc⟩
  have HF := Lib.hid (late_yes HT.out ho hb hc)
  clear ho hb hc
  go_wp2_with fail
  go_ret2
  exact HF.out
def LostPost (T : TypeId) (S : Nat → Prop) (w : World) (g : Nat) (v : Value) (l : List Tide.Req) (pod : Int) (e : Ending) (w' : World) : Prop :=
  ∃ v', e = .returned v' ∧ Tide.OwnRow (fun b => w.heap.size ≤ b) w' 3 1 v' (Tide.idsF (Tide.isLost pod) l).length ((Tide.idsF (Tide.isLost pod) l).map (.int .i64)) ∧ BAt T S w' g v (Tide.lostLst l pod) ∧ Tide.Chg S w w'
set_option maxRecDepth 100000 in
set_option maxHeartbeats 3200000 in
theorem bufLost (S : Nat → Prop) (g : Nat) (v : Value) (l : List Tide.Req) (pod : Int) (w : World) (h : BAt 123 S w g v l) :
    Calls Tryz.prog 73 #[.pointer (some ⟨g, 0, none⟩), .int .i64 pod] w (LostPost 123 S w g v l pod) := by
  have HH := Lib.hid (h.alloc (.cells #[.int .i64 pod] 3))
  have HL := Lib.hid h.lim
  have HX := Lib.hid (Tide.At.made w 3 #[.int .i64 pod])
  clear h
  go_enter Tryz.func73, Tryz.ntmps73
  go_wp2_with fail
  refine (bufLost_end w.heap.size (Tide.isLost pod) 5 S g v l _ HH.out (fun r W hW => bufLost1 _ pod r W (HX.out.chg hW (fun hs => Nat.lt_irrefl _ (HL.out _ hs))))).mono ?_
  rintro e w1 ⟨v', rfl, ho, hb, hc⟩
  have HF := Lib.hid (show LostPost 123 S w g v l pod (.returned v') w1 from ⟨v', rfl, ho.mono fun b _ hb => by simp at hb; omega, hb, ((Tide.Chg.refl S w).alloc _).trans hc⟩)
  clear ho hb hc
  go_wp2_with fail
  go_ret
  exact HF.out
open Go.RowKit
def BufNewPost (T : TypeId) (w : World) (e : Ending) (w' : World) : Prop := ∃ g, e = .returned (.pointer (some ⟨g, 0, none⟩)) ∧ BAt T (Tide.Plus (fun _ => False) w w') w' g (.slice none 0 0) [] ∧ Below w.heap.size w w'
set_option maxRecDepth 100000 in
set_option maxHeartbeats 1600000 in
theorem bufNew (w : World) : Calls Tryz.prog 29 #[] w (BufNewPost 123 w) := by
  have HF := Lib.hid (show BufNewPost 123 w (.returned (.pointer (some ⟨w.heap.size, 0, none⟩))) (w.alloc (.cells #[.slice none 0 0] 123)) from
    ⟨_, rfl, ⟨Tide.At.made w _ _, Tide.OwnRow.nil _ _ _ _, .inr ⟨Nat.le_refl _, by simp⟩, by simp, fun b hb => by rcases hb with hb | hb; exact hb.elim; exact hb.2⟩, (Below.refl _ _).alloc (Nat.le_refl _) _⟩)
  go_enter Tryz.func29, Tryz.ntmps29
  go_wp2_with fail
  go_ret
  exact HF.out
open Go Go.ChangeShapes Go.WideShapes Go.ChangeAt Go.RowKit
section
variable {H : Type} {enc : TypeId × Value → H}
theorem handed_and_shaped {a : Assume} {C : Checked} {os : Os} {f : FuncId} {fn : Func} {s : ChangeSpec} {conds : List PathCond} {apart fresh handsOn again : Bool} {X : World → Array Value → Prop}
    (hX : ∀ (w w' : World) (args : Array Value), w.heap = w'.heap → X w args → X w' args)
    (own : ownKnob C.prog.godebug = none) (started : os.Started) (noInit : C.prog.inits.idxOf? f = none) (hfn : C.prog.funcs[f]? = some fn)
    (witness : ∃ (w : World) (tape : Tape) (i : Input), w.os = os ∧ (w.forCall tape i).Shaped C.prog ∧ i.vars = [] ∧ Input.okWide C.prog (w.forCall tape i) .any w.heap.size f i ∧
      ((s.pre enc C.prog fn conds apart (w.forCall tape i).memory i.args ∧ X (w.forCall tape i).memory i.args) ∧ sizedMet enc C.prog fn (OpenSpec.ofChange s) apart (w.forCall tape i).memory i.args) ∧ a.holds C.prog (lone (Frame.enter C.prog f i.args .normal) [] (w.forCall tape i)))
    (contract : ∀ (W : World) (base : Nat) (args : Array Value) (ds gs : List (DataW H)) (before : List MemPlace),
      (∀ (j : Nat) t v, fn.params[j]? = some t → args[j]? = some v → Value.okWide C.prog W .any base t v) →
      DataW.Whole enc C.prog fn.params.toList s.vars apart W args.toList ds gs before →
      (DataW.weightsEach C.prog (fn.params.toList ++ s.plain.varTypes C.prog) (ds ++ gs)).all (· ≤ reachBytes) = true → X W args → W.ShapedOpen C.prog →
      Calls C.prog f args W fun e W' => ∃ v, e = .returned v ∧ s.post enc C.prog fn apart fresh handsOn again W args v W') :
    ReturnsInHanded a C os f .any (fun w args => (s.pre enc C.prog fn conds apart w args ∧ X w args) ∧ sizedMet enc C.prog fn (OpenSpec.ofChange s) apart w args) (s.post enc C.prog fn apart fresh handsOn again) := by
  refine returnsInHanded_of_calls own started noInit witness ?_
  intro w tape i _ hsh _ hok hpre _
  obtain ⟨_, _, _, fn', hfn', _, _, _, _, hval⟩ := hok
  have e : fn' = fn := Option.some.inj (hfn'.symm.trans hfn)
  subst e
  obtain ⟨⟨⟨ds, gs, before, hw, _⟩, hx⟩, hz⟩ := hpre
  have hw' := DataW.Whole.of_heap (w' := w.forCall tape i) (by rfl) hw
  refine (contract (w.forCall tape i) w.heap.size i.args ds gs before hval hw' (hz.weights hw) (hX _ _ _ (by rfl) hx) hsh).mono fun e W' ⟨v, he, hp⟩ => ?_
  subst he
  exact ChangeSpec.post_blind hp
end
open Go.ChangeShapes Go.WideShapes Go.ChangeAt Go.RowKit Go.Deep
section
variable {H : Type} {enc : TypeId × Value → H} {w : World} {base : Nat} {spare : Nat → Bool} {held : Bool}
set_option maxRecDepth 100000 in
set_option maxHeartbeats 400000 in
theorem open_list {α : Type} {en : α → List Value} {Q : α → Prop} {t e : TypeId} {k : Nat} {v : Value} {d : DataW H} {p : List MemPlace} (ht : Tryz.prog.underlying t = some (.slice e)) (hC : Tryz.prog.cellsOf e = k) (hk : 0 < k) (hen : ∀ a, (en a).length = k)
    (helem : ∀ (n : Nat) (cs : List Value) (y : DataW H × List MemPlace), cs.length = k → DataW.trod enc Tryz.prog w base spare held n e cs = some y → ∃ a : α, cs = en a ∧ Q a)
    (h1 : ∃ a len cap, v = .slice a len cap) (h : DataW.Trod enc Tryz.prog w base spare held t v d p) : ∃ (l : List α) (A : Option Addr) (cap : Nat), v = .slice A l.length cap ∧ l.length ≤ cap ∧ cap ≤ maxLen ∧ (∀ a ∈ l, Q a) ∧ Tide.ListIn w k en v l := by
  obtain ⟨a0, len0, cap0, e1⟩ := h1
  subst e1
  obtain ⟨fuel, hf⟩ := h
  rcases open_slice ht hf with ⟨hcs, hx⟩ | ⟨a, len, cap, m, n, D, Pl, hcs, hb, hl, hm, hmm, hx, hi⟩
  · simp [Value.cells] at hcs
    obtain ⟨rfl, rfl, rfl⟩ := hcs
    exact ⟨[], none, 0, rfl, Nat.le_refl 0, Nat.zero_le maxLen, fun row hr => absurd hr (by simp), none, 0, rfl, fun h0 => absurd h0 (by simp)⟩
  · simp [Value.cells] at hcs
    obtain ⟨rfl, rfl, rfl⟩ := hcs
    have hlm : len0 ≤ m := by rw [hmm]; split <;> omega
    have hrow : ∀ i, i < len0 → ∃ x : α, Q x ∧ ∀ j u, (en x)[j]? = some u → w.cell? (a.add (i * k + j)) = some u := by
      intro i hlt
      obtain ⟨cs', hc, ht'⟩ := hi i (by omega)
      rw [hC] at hc
      obtain ⟨_, hcl, hat⟩ := World.cells?_some hc
      obtain ⟨x, hx1, hq⟩ := helem n cs' _ hcl ht'
      refine ⟨x, hq, fun j u hj => ?_⟩
      have hjl : j < k := by
        rw [← hen x]
        rcases Nat.lt_or_ge j (en x).length with hl' | hl'
        · exact hl'
        · rw [List.getElem?_eq_none hl'] at hj; cases hj
      rw [← Go.Deep.add_add, hat j hjl]
      rw [hx1]; exact hj
    obtain ⟨f, hf'⟩ : ∃ f : Fin len0 → α, ∀ i : Fin len0, Q (f i) ∧ ∀ j u, (en (f i))[j]? = some u → w.cell? (a.add (i.1 * k + j)) = some u :=
      ⟨fun i => Classical.choose (hrow i.1 i.2), fun i => Classical.choose_spec (hrow i.1 i.2)⟩
    have hlen : (List.ofFn f).length = len0 := by simp
    refine ⟨List.ofFn f, some a, cap0, by rw [hlen], by rw [hlen]; simpa using hl, hm, ?_, some a, cap0, by rw [hlen], ?_⟩
    · intro x hx
      obtain ⟨i, rfl⟩ := List.mem_ofFn.1 hx
      exact (hf' i).1
    · intro h0
      rw [hlen] at h0
      have hz : 0 < (en (f ⟨0, h0⟩)).length := by rw [hen]; exact hk
      have hc0 : w.cell? (a.add (0 * k + 0)) = some ((en (f ⟨0, h0⟩))[0]'hz) := (hf' ⟨0, h0⟩).2 0 _ (List.getElem?_eq_getElem _)
      have hs : a.spot = none := by
        have := cell_spot hc0
        simpa [Addr.add] using this
      obtain ⟨b, off, sp⟩ := a
      simp only at hs
      subst hs
      refine ⟨b, off, rfl, ?_, ?_⟩
      · have := World.block_lt_of_cell? w _ hc0
        simpa [Addr.add] using this
      · intro i x j u h1 h2
        have hlt : i < len0 := by
          rw [← hlen]
          rcases Nat.lt_or_ge i (List.ofFn f).length with hl' | hl'
          · exact hl'
          · rw [List.getElem?_eq_none hl'] at h1; cases h1
        rw [List.getElem?_ofFn, dif_pos hlt] at h1
        cases h1
        have := (hf' ⟨i, hlt⟩).2 j u h2
        rw [← this]
        unfold Addr.add
        congr 1
        by_cases h3 : i * k = 0 <;> by_cases h4 : j = 0 <;> simp [h3, h4, Nat.add_assoc]
end
open Go.ChangeShapes Go.WideShapes Go.ChangeAt Go.RowKit
theorem cells_hap : Tryz.prog.cellsOf 53 = 3 := by kernel_rfl
set_option maxRecDepth 100000 in
theorem open_haps {H : Type} {enc : TypeId × Value → H} {w : World} {base : Nat} {spare : Nat → Bool} {held : Bool} {r : Reach} {b0 : Nat} {v : Value} {d : DataW H} {p : List MemPlace}
    (hv : Value.okWide Tryz.prog w r b0 27 v) (h : DataW.Trod enc Tryz.prog w base spare held 27 v d p) : ∃ l, ArgRows w 3 v l :=
  open_rows Tryz.underlying27 cells_hap (by decide) (struct_ints Tryz.underlying53 (by kernel_rfl) (by intro i f hf; rcases i with _ | _ | _ | i <;> simp at hf <;> subst hf <;> rfl) cells_hap rfl) hv h
end Go.Proofs.YtidonhndeohdlaaGreatDoor
