/- The contracts of first, find, Next, Count, All. -/
import Derived.Test.YtgcdomoecikooaaBufD
namespace Go.Proofs.Ytgcdomoecikooaa
open Go.RowKit
set_option linter.unusedVariables false

theorem buf_info : (Try.prog.info? 42).map (fun i => (i.zero, i.size, i.bytes)) = some (some (.agg #[.int .i64 0, .int .i64 0, .int .i64 0, .int .i64 0, .int .i64 0]), 5, 40) := by kernel_rfl
theorem buf_one {l : List Tide.Req} : ∀ u ∈ l.flatMap Tide.Req.enc, u.oneCell' = true := by
  intro u hu
  obtain ⟨r, _, hr⟩ := List.mem_flatMap.1 hu
  simp [Tide.Req.enc] at hr
  rcases hr with h | h | h | h | h <;> subst h <;> rfl
/-- slices.Clone at []api.Request -/
def buf_ClonePost (w : World) (n : Nat) (xs : List Value) (e : Ending) (w' : World) : Prop := ∃ v', e = .returned v' ∧ Tide.OwnRow (fun b => w.heap.size ≤ b) w' 42 5 v' n xs ∧ Below w.heap.size w w'
set_option maxRecDepth 100000 in
set_option maxHeartbeats 4000000 in
theorem buf_clone (S : Nat → Prop) (w : World) (v : Value) (n : Nat) (xs : List Value) (h : Tide.OwnRow S w 42 5 v n xs) (hn : n ≤ 1000000) (h1 : ∀ u ∈ xs, u.oneCell' = true) :
    Calls Try.prog 56 #[v] w (buf_ClonePost w n xs) := by
  have heq := @Lib.run_eql_slice_nil Try.prog
  rcases h.2 with ⟨rfl, rfl⟩ | ⟨g, cap, rfl, hS, hcap, hmax, hrow⟩
  · have hx : xs = [] := List.length_eq_zero_iff.1 (h.1.trans (Nat.zero_mul _))
    have HF := Lib.hid (show buf_ClonePost w 0 xs (.returned (.slice none 0 0)) w from ⟨_, rfl, by rw [hx]; exact Tide.OwnRow.nil _ _ _ _, Below.refl _ _⟩)
    have hq := fun w => Lib.run_eql_slice_nil (P := Try.prog) w 26 42 none 0 0 0 0 Try.underlying26
    clear h hx heq
    go_enter Try.func56, Try.ntmps56
    go_wp2_with fail
    go_ret
    exact HF.out
  · have hq := fun w => Lib.run_eql_slice_nil (P := Try.prog) w 26 42 (some ⟨g, 0, none⟩) n cap 0 0 Try.underlying26
    have hlen := h.1
    obtain ⟨i0, hi0, hz0, hz1, hz2⟩ := info_parts buf_info
    have HR := Lib.hid hrow; have H1 := Lib.hid h1; have HL := Lib.hid hlen
    have hown : (w.alloc (.cells #[] 42)).ownsRow w.heap.size 42 5 (.slice (some ⟨w.heap.size, 0, none⟩) 0 0) 0 [] := World.ownsRow_made w #[] 0 (Nat.le_refl _) (Nat.zero_le _) rfl
    have HO := Lib.hid hown
    have hm3 := Lib.hid (show 0 + n ≤ maxLen by simp only [maxLen]; omega)
    have hm4 := Lib.hid (show (0 + n) * 40 ≤ 140737488355328 by omega)
    clear h hrow h1 hlen hown hcap hmax hn heq
    go_enter Try.func56, Try.ntmps56
    go_wp2_with (at_builtin; refine wpList_append_own _ (by rfl) (.tmp 5) (.tmp 6) 26 (by rfl) w.heap.size 42 i0 (.agg #[.int .i64 0, .int .i64 0, .int .i64 0, .int .i64 0, .int .i64 0]) 5 40 Try.underlying26 hi0 hz0 hz1 hz2 rfl (by decide) _ _ _ rfl HO.out ⟨g, 0, none⟩ n cap xs rfl HL.out ?c1 H1.out hm3.out hm4.out ?c5 ?_)
    case c1 => exact fun j u hu => by rw [Addr.add_lit, Nat.zero_add]; exact (HR.out.alloc _).cell hu
    case c5 => simp
    intro v' w1 hown1 hg1 _
    have HF := Lib.hid (show buf_ClonePost w n xs (.returned v') w1 from by
      refine ⟨v', rfl, ?_, (((Below.refl _ w).alloc (Nat.le_refl _) _)).grown hg1 (by simp) (fun k hk => by simp [Value.ownBlock] at hk; omega)⟩
      exact Tide.OwnRow.of_owns hown1 (Tide.own_ge hown1))
    clear hown1 hg1
    go_wp2_with fail
    go_ret
    exact HF.out

theorem firstN_some {l : List Tide.Req} {src : Int} {i : Nat} {r : Tide.Req} (h0 : Tide.countF src 2 l ≤ 0) (h : Tide.firstAt (Tide.waitsOf src) l = some i) (hr : l[i]? = some r) : Tide.firstN l src = r.id := by
  unfold Tide.firstN; rw [if_neg (by omega), h]; simp only; rw [hr]; rfl
theorem firstN_none {l : List Tide.Req} {src : Int} (h : Tide.firstAt (Tide.waitsOf src) l = none) : Tide.firstN l src = 0 := by
  unfold Tide.firstN; rw [h]; split <;> rfl
set_option maxRecDepth 100000 in
set_option maxHeartbeats 1600000 in
theorem bufFirst (S : Nat → Prop) (g : Nat) (v : Value) (l : List Tide.Req) (src : Int) (w : World) (h : BAt 74 S w g v l) :
    Calls Try.prog 54 #[.pointer (some ⟨g, 0, none⟩), .int .i64 src] w (ReadPost w (.int .i64 (Tide.firstN l src))) := by
  obtain ⟨A, cap, rfl, _, _, _⟩ := h.row.slice
  have hs := h.small
  have HH := Lib.hid h
  clear h
  go_enter Try.func54, Try.ntmps54
  go_wp2_with fail
  refine (bufCount S g _ l src 2 _ HH.out).mono ?_
  rintro e w1 ⟨rfl, hb1⟩
  have HB1 := Lib.hid hb1
  clear hb1
  by_cases k0 : 0 < Tide.countF src 2 l
  · have HF := Lib.hid (show ReadPost w (.int .i64 (Tide.firstN l src)) (.returned (.int .i64 0)) w1 from ⟨by unfold Tide.firstN; rw [if_pos k0], HB1.out⟩)
    go_wp2_with fail
    go_ret
    exact HF.out
  · have k1 : Tide.countF src 2 l ≤ 0 := by omega
    have K0 := Lib.hid k1
    have hc : w1.cell? ⟨g, 0, none⟩ = some (.slice A l.length cap) := (HH.out.below HB1.out).head.here rfl
    clear k0
    generalize Tide.countF src 2 l = c2 at k1 ⊢
    go_wp2_with fail
    go_loopw [16] (fun i wr => ∃ k : Nat, k ≤ l.length ∧ i = .int .i64 k ∧ Hid (∀ (t : Nat) (b : Tide.Req), t < k → l[t]? = some b → Tide.waitsOf src b = false) ∧ Below w.heap.size w wr) (fun i _ => l.length - (intOf i).toNat)
    case atStart => exact ⟨0, by omega, rfl, Lib.hid (fun t b ht => by omega), HB1.out⟩
    case round =>
      clear hc
      obtain ⟨k, hk, rfl, hno, hb⟩ := hrel
      by_cases hlt : k < l.length
      · obtain ⟨r, hr⟩ := Tide.get_some l hlt
        obtain ⟨b, cap', e, hS, _, _, hbl, c0, c1, c2', c3, c4, _⟩ := (HH.out.below hb).req hr
        cases e
        have i0 : (0 : Int) ≤ (k : Int) := by omega
        have i1 : (k : Int) < (l.length : Int) := by omega
        have HB := Lib.hid (hb.alloc hb.size (.cells #[.int .i64 r.id, .int .i64 r.source, .int .i64 r.till, .int .i64 r.fate, .int .i64 r.pod] 42))
        have HR := Lib.hid hr
        clear hr hb
        have HNo := Lib.hid (show Tide.waitsOf src r = false → ∀ (t : Nat) (b : Tide.Req), t < k + 1 → l[t]? = some b → Tide.waitsOf src b = false from fun hw t b ht hb => by
          rcases Nat.lt_succ_iff_lt_or_eq.mp ht with h | h
          · exact hno.out t b h hb
          · subst h; rw [HR.out] at hb; cases hb; exact hw)
        cases hg : (r.source == src)
        · have HN := Lib.hid (HNo.out (by unfold Tide.waitsOf; rw [hg]; rfl))
          clear hno
          go_wp2_with fail
          go_roundw
          case rel => exact ⟨k + 1, by omega, by go_num, HN, HB.out⟩
          case measure => simp [intOf]; omega
        · cases hf : (r.fate == 1)
          · have HN := Lib.hid (HNo.out (by unfold Tide.waitsOf; rw [hg, hf]; rfl))
            clear hno
            go_wp2_with fail
            go_roundw
            case rel => exact ⟨k + 1, by omega, by go_num, HN, HB.out⟩
            case measure => simp [intOf]; omega
          · have HF := Lib.hid (show ReadPost w (.int .i64 (Tide.firstN l src)) (.returned (.int .i64 r.id)) _ from ⟨by rw [firstN_some K0.out (Tide.firstAt_some hno.out HR.out (by unfold Tide.waitsOf; rw [hg, hf]; rfl)) HR.out], HB.out⟩)
            clear hno
            go_wp2_with fail
            go_ret
            exact HF.out
      · have hke : k = l.length := by omega
        have HF := Lib.hid (show ReadPost w (.int .i64 (Tide.firstN l src)) (.returned (.int .i64 0)) wr from ⟨by rw [firstN_none (Tide.firstAt_none fun t b hb => hno.out t b (by rw [hke]; exact Tide.get_lt hb) hb)], hb⟩)
        clear hb hno hke
        go_wp2_with fail
        go_ret
        exact HF.out

theorem reqAt_none {l : List Tide.Req} {id : Int} (h : Tide.reqAt l id = none) : id < 1 ∨ (l.length : Int) < id := by
  unfold Tide.reqAt at h
  by_cases h1 : 1 ≤ id
  · rw [if_pos h1] at h
    have := List.getElem?_eq_none_iff.1 h
    omega
  · omega
theorem reqAt_some {l : List Tide.Req} {id : Int} {r : Tide.Req} (h : Tide.reqAt l id = some r) : ∃ k : Nat, id = k + 1 ∧ l[k]? = some r := by
  unfold Tide.reqAt at h
  by_cases h1 : 1 ≤ id
  · rw [if_pos h1] at h
    exact ⟨(id - 1).toNat, by omega, h⟩
  · rw [if_neg h1] at h; cases h
set_option maxRecDepth 100000 in
set_option maxHeartbeats 1600000 in
theorem bufFind_none (S : Nat → Prop) (g : Nat) (v : Value) (l : List Tide.Req) (id : Int) (w : World) (h : BAt 74 S w g v l) (hn : Tide.reqAt l id = none) :
    Calls Try.prog 53 #[.pointer (some ⟨g, 0, none⟩), .int .i64 id] w fun e w' => e = .returned (.pointer none) ∧ w = w' := by
  obtain ⟨A, cap, rfl, _, _, _⟩ := h.row.slice
  have hc : w.cell? ⟨g, 0, none⟩ = some (.slice A l.length cap) := h.head.here rfl
  have hx := reqAt_none hn
  clear h hn
  by_cases h1 : id < 1
  · clear hx
    go_enter Try.func53, Try.ntmps53
    go_wp2_with fail
    go_ret
    exact ⟨rfl, rfl⟩
  · have h2 : (l.length : Int) < id := by omega
    have h3 : 1 ≤ id := by omega
    clear hx h1
    go_enter Try.func53, Try.ntmps53
    go_wp2_with fail
    go_ret
    exact ⟨rfl, rfl⟩
set_option maxRecDepth 100000 in
set_option maxHeartbeats 1600000 in
theorem bufFind (S : Nat → Prop) (g b cap n : Nat) (l : List Tide.Req) (k : Nat) (w : World) (h : BAt 74 S w g (.slice (some ⟨b, 0, none⟩) n cap) l) (hk : k < l.length) :
    Calls Try.prog 53 #[.pointer (some ⟨g, 0, none⟩), .int .i64 (k + 1)] w fun e w' => e = .returned (.pointer (some ⟨b, k * 5, none⟩)) ∧ w = w' := by
  obtain ⟨A, cap', e, _, _, _⟩ := h.row.slice
  cases e
  have hc : w.cell? ⟨g, 0, none⟩ = some (.slice (some ⟨b, 0, none⟩) l.length cap) := h.head.here rfl
  have hs := h.small
  have h1 : (1 : Int) ≤ (k : Int) + 1 := by omega
  have h2 : (k : Int) + 1 ≤ (l.length : Int) := by omega
  have i0 : (0 : Int) ≤ (k : Int) := by omega
  have i1 : (k : Int) < (l.length : Int) := by omega
  clear h
  go_enter Try.func53, Try.ntmps53
  go_wp2_with fail
  go_ret
  exact ⟨by go_num, rfl⟩

set_option maxRecDepth 100000 in
set_option maxHeartbeats 1600000 in
theorem bufCount2 (S : Nat → Prop) (g : Nat) (v : Value) (l : List Tide.Req) (w : World) (h : BAt 74 S w g v l) :
    Calls Try.prog 60 #[.pointer (some ⟨g, 0, none⟩)] w (ReadPost w (.tuple #[.int .i64 (Tide.countF (-1) 1 l), .int .i64 (Tide.countF (-1) 2 l)])) := by
  have HH := Lib.hid h
  clear h
  go_enter Try.func60, Try.ntmps60
  go_wp2_with fail
  refine (bufCount S g _ l (-1) 1 _ HH.out).mono ?_
  rintro e w1 ⟨rfl, hb1⟩
  have HB1 := Lib.hid hb1
  clear hb1
  go_wp2_with fail
  refine (bufCount S g _ l (-1) 2 _ (HH.out.below HB1.out)).mono ?_
  rintro e w2 ⟨rfl, hb2⟩
  have HB2 := Lib.hid (HB1.out.trans (hb2.mono HB1.out.size))
  clear hb2
  go_wp2_with fail
  go_ret2
  exact ⟨rfl, HB2.out⟩

def BufAllPost (w : World) (l : List Tide.Req) (e : Ending) (w' : World) : Prop := ∃ v', e = .returned v' ∧ Tide.OwnRow (fun b => w.heap.size ≤ b) w' 42 5 v' l.length (l.flatMap Tide.Req.enc) ∧ Below w.heap.size w w'
set_option maxRecDepth 100000 in
set_option maxHeartbeats 1600000 in
theorem bufAll (S : Nat → Prop) (g : Nat) (v : Value) (l : List Tide.Req) (w : World) (h : BAt 74 S w g v l) :
    Calls Try.prog 16 #[.pointer (some ⟨g, 0, none⟩)] w (BufAllPost w l) := by
  obtain ⟨A, cap, rfl, _, _, _⟩ := h.row.slice
  have hc : w.cell? ⟨g, 0, none⟩ = some (.slice A l.length cap) := h.head.here rfl
  have HH := Lib.hid h
  clear h
  go_enter Try.func16, Try.ntmps16
  go_wp2_with fail
  refine (buf_clone S _ _ _ _ HH.out.row (by have := HH.out.small; omega) buf_one).mono ?_
  rintro e w2 ⟨v', rfl, h2, hb2⟩
  have HF := Lib.hid (show BufAllPost w l (.returned v') w2 from ⟨v', rfl, h2, hb2⟩)
  clear h2 hb2 hc
  go_wp2_with fail
  go_ret
  exact HF.out

theorem best_succ (l : List Tide.Req) (k : Nat) : (List.range (k + 1)).foldl (Tide.bestStep l) 0 = Tide.bestStep l ((List.range k).foldl (Tide.bestStep l) 0) k := by
  rw [List.range_succ, List.foldl_append]; rfl
set_option maxRecDepth 100000 in
set_option maxHeartbeats 1600000 in
theorem bufNext (S : Nat → Prop) (g : Nat) (v : Value) (l : List Tide.Req) (w : World) (h : BAt 74 S w g v l) :
    Calls Try.prog 22 #[.pointer (some ⟨g, 0, none⟩)] w (ReadPost w (.tuple #[.int .i64 (Tide.nextN l), .bool (decide (0 < Tide.nextN l))])) := by
  have HH := Lib.hid h
  clear h
  go_enter Try.func22, Try.ntmps22
  go_wp2_with fail
  go_loopw [4, 7] (fun m i wr => ∃ k : Nat, k ≤ 6 ∧ i = .int .i64 k ∧ m = .int .i64 ((List.range k).foldl (Tide.bestStep l) 0) ∧ Below w.heap.size w wr) (fun _ i _ => 6 - (intOf i).toNat)
  case atStart => exact ⟨0, by omega, rfl, rfl, Below.refl _ _⟩
  case round =>
    obtain ⟨k, hk, rfl, rfl, hb⟩ := hrel
    have HB := Lib.hid hb
    clear hb
    by_cases hlt : k < 6
    · have i1 : (k : Int) < 6 := by omega
      have HS := Lib.hid (best_succ l k)
      generalize (List.range k).foldl (Tide.bestStep l) 0 = best at HS ⊢
      go_wp2_with fail
      refine (bufFirst S g v l k _ (HH.out.below HB.out)).mono ?_
      rintro e w1 ⟨rfl, hb1⟩
      have HB1 := Lib.hid (HB.out.trans (hb1.mono HB.out.size))
      clear hb1
      have HU := Lib.hid (show Tide.bestStep l best k = if 0 < Tide.firstN l k ∧ (best = 0 ∨ Tide.firstN l k < best) then Tide.firstN l k else best from rfl)
      generalize Tide.firstN l k = f at HU ⊢
      by_cases q1 : 0 < f
      · by_cases q2 : best = 0
        · have HE := Lib.hid (show f = (List.range (k + 1)).foldl (Tide.bestStep l) 0 by rw [HS.out, HU.out, if_pos ⟨q1, .inl q2⟩])
          subst q2
          go_wp2_with fail
          go_roundw
          case rel => exact ⟨k + 1, by omega, by go_num, by rw [← HE.out], HB1.out⟩
          case measure => simp [intOf]; omega
        · by_cases q3 : f < best
          · have HE := Lib.hid (show f = (List.range (k + 1)).foldl (Tide.bestStep l) 0 by rw [HS.out, HU.out, if_pos ⟨q1, .inr q3⟩])
            go_wp2_with fail
            go_roundw
            case rel => exact ⟨k + 1, by omega, by go_num, by rw [← HE.out], HB1.out⟩
            case measure => simp [intOf]; omega
          · have HE := Lib.hid (show best = (List.range (k + 1)).foldl (Tide.bestStep l) 0 by rw [HS.out, HU.out, if_neg (by omega)])
            have q4 : ((best == 0) = true ∨ f < best) = False := by simp only [eq_iff_iff, iff_false, beq_iff_eq]; omega
            have q2b : (best == 0) = false := by simp only [beq_eq_false_iff_ne]; exact q2
            have q3' : best ≤ f := by omega
            clear q3
            go_wp2_with fail
            go_roundw
            case rel => exact ⟨k + 1, by omega, by go_num, by rw [← HE.out], HB1.out⟩
            case measure => simp [intOf]; omega
      · have HE := Lib.hid (show best = (List.range (k + 1)).foldl (Tide.bestStep l) 0 by rw [HS.out, HU.out, if_neg (by omega)])
        have q1' : f ≤ 0 := by omega
        clear q1
        go_wp2_with fail
        go_roundw
        case rel => exact ⟨k + 1, by omega, by go_num, by rw [← HE.out], HB1.out⟩
        case measure => simp [intOf]; omega
    · have hke : k = 6 := by omega
      subst hke
      have HF := Lib.hid (show ReadPost w (.tuple #[.int .i64 (Tide.nextN l), .bool (decide (0 < Tide.nextN l))]) (.returned (.tuple #[.int .i64 ((List.range 6).foldl (Tide.bestStep l) 0), .bool (decide (0 < (List.range 6).foldl (Tide.bestStep l) 0))])) wr from ⟨rfl, HB.out⟩)
      generalize (List.range 6).foldl (Tide.bestStep l) 0 = best at HF ⊢
      go_wp2_with fail
      go_ret2
      exact HF.out
end Go.Proofs.Ytgcdomoecikooaa
