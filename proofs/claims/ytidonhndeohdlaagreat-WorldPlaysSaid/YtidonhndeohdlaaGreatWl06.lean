/- Parts of this claim: BufE, BufF, BufG, BufH, BufI, CivE, CivR. -/
import Derived.Test.YtidonhndeohdlaaGreatWl05
set_option linter.unusedVariables false
set_option linter.unusedSimpArgs false
set_option maxRecDepth 100000
set_option maxHeartbeats 12800000
namespace Go.Proofs.YtidonhndeohdlaaGreat
open Go.RowKit
theorem buf_info : (Tryz.prog.info? 105).map (fun i => (i.zero, i.size, i.bytes)) = some (some (.agg #[.int .i64 0, .int .i64 0, .int .i64 0, .int .i64 0, .int .i64 0]), 5, 40) := by kernel_rfl
theorem buf_one {l : List G.Req} : ∀ u ∈ l.flatMap G.Req.enc, u.oneCell' = true := by
 intro u hu
 obtain ⟨r, _, hr⟩ := List.mem_flatMap.1 hu
 simp [G.Req.enc] at hr
 rcases hr with h | h | h | h | h <;> subst h <;> rfl
def buf_ClonePost (w : World) (n : Nat) (xs : List Value) (e : Ending) (w' : World) : Prop := ∃ v', e = .returned v' ∧ G.OwnRow (fun b => w.heap.size ≤ b) w' 105 5 v' n xs ∧ Below w.heap.size w w'
theorem buf_clone (S : Nat → Prop) (w : World) (v : Value) (n : Nat) (xs : List Value) (h : G.OwnRow S w 105 5 v n xs) (hn : n ≤ 100000000) (h1 : ∀ u ∈ xs, u.oneCell' = true) :
  Calls Tryz.prog 125 #[v] w (buf_ClonePost w n xs) := by
 have heq := @Lib.run_eql_slice_nil Tryz.prog
 rcases h.2 with ⟨rfl, rfl⟩ | ⟨g, cap, rfl, hS, hcap, hmax, hrow⟩
 ·have hx : xs = [] := List.length_eq_zero_iff.1 (h.1.trans (Nat.zero_mul _))
  have HF := J (show buf_ClonePost w 0 xs (.returned (.slice none 0 0)) w from ⟨_, rfl, by rw [hx]; exact G.OwnRow.nil _ _ _ _, Below.refl _ _⟩)
  have hq := fun w => Lib.run_eql_slice_nil (P := Tryz.prog) w 80 105 none 0 0 0 0 Tryz.underlying80
  clear h hx heq
  go_enter Tryz.func125, Tryz.ntmps125
  go_wp2_with fail
  go_ret
  exact HF.u
 have hq := fun w => Lib.run_eql_slice_nil (P := Tryz.prog) w 80 105 (some ⟨g, 0, none⟩) n cap 0 0 Tryz.underlying80
 have hlen := h.1
 obtain ⟨i0, hi0, hz0, hz1, hz2⟩ := info_parts buf_info
 have HR := J hrow; have H1 := J h1; have HL := J hlen
 have hown : (w.alloc (.cells #[] 105)).ownsRow w.heap.size 105 5 (.slice (some ⟨w.heap.size, 0, none⟩) 0 0) 0 [] := World.ownsRow_made w #[] 0 (Nat.le_refl _) (Nat.zero_le _) rfl
 have HO := J hown
 have hm3 := J (show 0 + n ≤ maxLen by simp only [maxLen]; omega)
 have hm4 := J (show (0 + n) * 40 ≤ 140737488355328 by omega)
 clear h hrow h1 hlen hown hcap hmax hn heq
 go_enter Tryz.func125, Tryz.ntmps125
 go_wp2_with (at_builtin; refine wpList_append_own _ (by rfl) (.tmp 5) (.tmp 6) 80 (by rfl) w.heap.size 105 i0 (.agg #[.int .i64 0, .int .i64 0, .int .i64 0, .int .i64 0, .int .i64 0]) 5 40 Tryz.underlying80 hi0 hz0 hz1 hz2 rfl (by decide) _ _ _ rfl HO.u ⟨g, 0, none⟩ n cap xs rfl HL.u ?c1 H1.u hm3.u hm4.u ?c5 ?_)
 case c1 => exact fun j u hu => by rw [Addr.add_lit, Nat.zero_add]; exact (HR.u.alloc _).cell hu
 case c5 => simp
 intro v' w1 hown1 hg1 _
 have HF := J (show buf_ClonePost w n xs (.returned v') w1 from by
  refine ⟨v', rfl, ?_, (((Below.refl _ w).alloc (Nat.le_refl _) _)).grown hg1 (by simp) (fun k hk => by simp [Value.ownBlock] at hk; omega)⟩
  exact G.OwnRow.of_owns hown1 (G.own_ge hown1))
 clear hown1 hg1
 go_wp2_with fail
 go_ret
 exact HF.u
theorem firstN_some {l : List G.Req} {src : Int} {i : Nat} {r : G.Req} (h0 : G.countF src 2 l ≤ 0) (h : G.firstAt (G.waitsOf src) l = some i) (hr : l[i]? = some r) : G.firstN l src = r.id := by
 unfold G.firstN; rw [if_neg (by omega), h]; simp only; rw [hr]; rfl
theorem firstN_none {l : List G.Req} {src : Int} (h : G.firstAt (G.waitsOf src) l = none) : G.firstN l src = 0 := by
 unfold G.firstN; rw [h]; split <;> rfl
theorem bufFirst (S : Nat → Prop) (g : Nat) (v : Value) (l : List G.Req) (src : Int) (w : World) (h : BAt 126 S w g v l) :
  Calls Tryz.prog 135 #[.pointer (some ⟨g, 0, none⟩), .int .i64 src] w (ReadPost w (.int .i64 (G.firstN l src))) := by
 obtain ⟨A, cap, rfl, _, _, _⟩ := h.row.slice
 have hs := h.small
 have HH := J h
 clear h
 go_enter Tryz.func135, Tryz.ntmps135
 go_wp2_with fail
 refine (bufCount S g _ l src 2 _ HH.u).mono ?_
 rintro e w1 ⟨rfl, hb1⟩
 have HB1 := J hb1
 clear hb1
 by_cases k0 : 0 < G.countF src 2 l
 ·have HF := J (show ReadPost w (.int .i64 (G.firstN l src)) (.returned (.int .i64 0)) w1 from ⟨by unfold G.firstN; rw [if_pos k0], HB1.u⟩)
  go_wp2_with fail
  go_ret
  exact HF.u
 have k1 : G.countF src 2 l ≤ 0 := by omega
 have K0 := J k1
 have hc : w1.cell? ⟨g, 0, none⟩ = some (.slice A l.length cap) := (HH.u.below HB1.u).head.here rfl
 clear k0
 generalize G.countF src 2 l = c2 at k1 ⊢
 go_wp2_with fail
 go_loopw [16] (fun i wr => ∃ k : Nat, k ≤ l.length ∧ i = .int .i64 k ∧ Hid (∀ (t : Nat) (b : G.Req), t < k → l[t]? = some b → G.waitsOf src b = false) ∧ Below w.heap.size w wr) (fun i _ => l.length - (intOf i).toNat)
 case atStart => exact ⟨0, by omega, rfl, J (fun t b ht => by omega), HB1.u⟩
 clear hc
 obtain ⟨k, hk, rfl, hno, hb⟩ := hrel
 by_cases hlt : k < l.length
 ·obtain ⟨r, hr⟩ := G.get_some l hlt
  obtain ⟨b, cap', e, hS, _, _, hbl, c0, c1, c2', c3, c4, _⟩ := (HH.u.below hb).req hr
  cases e
  have i0 : (0 : Int) ≤ (k : Int) := by omega
  have i1 : (k : Int) < (l.length : Int) := by omega
  have HB := J (hb.alloc hb.size (.cells #[.int .i64 r.id, .int .i64 r.source, .int .i64 r.till, .int .i64 r.fate, .int .i64 r.pod] 105))
  have HR := J hr
  clear hr hb
  have HNo := J (show G.waitsOf src r = false → ∀ (t : Nat) (b : G.Req), t < k + 1 → l[t]? = some b → G.waitsOf src b = false from fun hw t b ht hb => by
   rcases Nat.lt_succ_iff_lt_or_eq.mp ht with h | h
   ·exact hno.u t b h hb
   subst h; rw [HR.u] at hb; cases hb; exact hw)
  cases hg : (r.source == src)
  ·have HN := J (HNo.u (by unfold G.waitsOf; rw [hg]; rfl))
   clear hno
   go_wp2_with fail
   go_roundw
   case rel => exact ⟨k + 1, by omega, by go_num, HN, HB.u⟩
   case measure => simp [intOf]; omega
  cases hf : (r.fate == 1)
  ·have HN := J (HNo.u (by unfold G.waitsOf; rw [hg, hf]; rfl))
   clear hno
   go_wp2_with fail
   go_roundw
   case rel => exact ⟨k + 1, by omega, by go_num, HN, HB.u⟩
   case measure => simp [intOf]; omega
  have HF := J (show ReadPost w (.int .i64 (G.firstN l src)) (.returned (.int .i64 r.id)) _ from ⟨by rw [firstN_some K0.u (G.firstAt_some hno.u HR.u (by unfold G.waitsOf; rw [hg, hf]; rfl)) HR.u], HB.u⟩)
  clear hno
  go_wp2_with fail
  go_ret
  exact HF.u
 have hke : k = l.length := by omega
 have HF := J (show ReadPost w (.int .i64 (G.firstN l src)) (.returned (.int .i64 0)) wr from ⟨by rw [firstN_none (G.firstAt_none fun t b hb => hno.u t b (by rw [hke]; exact G.get_lt hb) hb)], hb⟩)
 clear hb hno hke
 go_wp2_with fail
 go_ret
 exact HF.u
theorem reqAt_none {l : List G.Req} {id : Int} (h : G.reqAt l id = none) : id < 1 ∨ (l.length : Int) < id := by
 unfold G.reqAt at h
 by_cases h1 : 1 ≤ id
 ·rw [if_pos h1] at h
  have := List.getElem?_eq_none_iff.1 h
  omega
 omega
theorem reqAt_some {l : List G.Req} {id : Int} {r : G.Req} (h : G.reqAt l id = some r) : ∃ k : Nat, id = k + 1 ∧ l[k]? = some r := by
 unfold G.reqAt at h
 by_cases h1 : 1 ≤ id
 ·rw [if_pos h1] at h
  exact ⟨(id - 1).toNat, by omega, h⟩
 rw [if_neg h1] at h; cases h
theorem bufFind_none (S : Nat → Prop) (g : Nat) (v : Value) (l : List G.Req) (id : Int) (w : World) (h : BAt 126 S w g v l) (hn : G.reqAt l id = none) :
  Calls Tryz.prog 118 #[.pointer (some ⟨g, 0, none⟩), .int .i64 id] w fun e w' => e = .returned (.pointer none) ∧ w = w' := by
 obtain ⟨A, cap, rfl, _, _, _⟩ := h.row.slice
 have hc := h.head.here (i := 0) rfl
 have hx := reqAt_none hn
 clear h hn
 by_cases h1 : id < 1
 ·clear hx
  go_enter Tryz.func118, Tryz.ntmps118
  go_wp2_with fail
  go_ret
  exact ⟨rfl, rfl⟩
 have h2 : (l.length : Int) < id := by omega
 have h3 : 1 ≤ id := by omega
 clear hx h1
 go_enter Tryz.func118, Tryz.ntmps118
 go_wp2_with fail
 go_ret
 exact ⟨rfl, rfl⟩
theorem bufFind (S : Nat → Prop) (g b cap n : Nat) (l : List G.Req) (k : Nat) (w : World) (h : BAt 126 S w g (.slice (some ⟨b, 0, none⟩) n cap) l) (hk : k < l.length) :
  Calls Tryz.prog 118 #[.pointer (some ⟨g, 0, none⟩), .int .i64 (k + 1)] w fun e w' => e = .returned (.pointer (some ⟨b, k * 5, none⟩)) ∧ w = w' := by
 obtain ⟨A, cap', e, _, _, _⟩ := h.row.slice
 cases e
 have hc := h.head.here (i := 0) rfl
 have hs := h.small
 have h1 : (1 : Int) ≤ (k : Int) + 1 := by omega
 have h2 : (k : Int) + 1 ≤ (l.length : Int) := by omega
 have i0 : (0 : Int) ≤ (k : Int) := by omega
 have i1 : (k : Int) < (l.length : Int) := by omega
 clear h
 go_enter Tryz.func118, Tryz.ntmps118
 go_wp2_with fail
 go_ret
 exact ⟨by go_num, rfl⟩
theorem bufCount2 (S : Nat → Prop) (g : Nat) (v : Value) (l : List G.Req) (w : World) (h : BAt 126 S w g v l) :
  Calls Tryz.prog 107 #[.pointer (some ⟨g, 0, none⟩)] w (ReadPost w (.tuple #[.int .i64 (G.countF (-1) 1 l), .int .i64 (G.countF (-1) 2 l)])) := by
 have HH := J h
 clear h
 go_enter Tryz.func107, Tryz.ntmps107
 go_wp2_with fail
 refine (bufCount S g _ l (-1) 1 _ HH.u).mono ?_
 rintro e w1 ⟨rfl, hb1⟩
 have HB1 := J hb1
 clear hb1
 go_wp2_with fail
 refine (bufCount S g _ l (-1) 2 _ (HH.u.below HB1.u)).mono ?_
 rintro e w2 ⟨rfl, hb2⟩
 have HB2 := J (HB1.u.trans (hb2.mono HB1.u.size))
 clear hb2
 go_wp2_with fail
 go_ret2
 exact ⟨rfl, HB2.u⟩
def BufAllPost (w : World) (l : List G.Req) (e : Ending) (w' : World) : Prop := ∃ v', e = .returned v' ∧ G.OwnRow (fun b => w.heap.size ≤ b) w' 105 5 v' l.length (l.flatMap G.Req.enc) ∧ Below w.heap.size w w'
theorem bufAll (S : Nat → Prop) (g : Nat) (v : Value) (l : List G.Req) (w : World) (h : BAt 126 S w g v l) :
  Calls Tryz.prog 93 #[.pointer (some ⟨g, 0, none⟩)] w (BufAllPost w l) := by
 obtain ⟨A, cap, rfl, _, _, _⟩ := h.row.slice
 have hc := h.head.here (i := 0) rfl
 have HH := J h
 clear h
 go_enter Tryz.func93, Tryz.ntmps93
 go_wp2_with fail
 refine (buf_clone S _ _ _ _ HH.u.row (by have := HH.u.small; omega) buf_one).mono ?_
 rintro e w2 ⟨v', rfl, h2, hb2⟩
 have HF := J (show BufAllPost w l (.returned v') w2 from ⟨v', rfl, h2, hb2⟩)
 clear h2 hb2 hc
 go_wp2_with fail
 go_ret
 exact HF.u
theorem best_succ (l : List G.Req) (k : Nat) : (List.range (k + 1)).foldl (G.bestStep l) 0 = G.bestStep l ((List.range k).foldl (G.bestStep l) 0) k := by
 rw [List.range_succ, List.foldl_append]; rfl
theorem bufNext (S : Nat → Prop) (g : Nat) (v : Value) (l : List G.Req) (w : World) (h : BAt 126 S w g v l) :
  Calls Tryz.prog 111 #[.pointer (some ⟨g, 0, none⟩)] w (ReadPost w (.tuple #[.int .i64 (G.nextN l), .bool (decide (0 < G.nextN l))])) := by
 have HH := J h
 clear h
 go_enter Tryz.func111, Tryz.ntmps111
 go_wp2_with fail
 go_loopw [4, 7] (fun m i wr => ∃ k : Nat, k ≤ 6 ∧ i = .int .i64 k ∧ m = .int .i64 ((List.range k).foldl (G.bestStep l) 0) ∧ Below w.heap.size w wr) (fun _ i _ => 6 - (intOf i).toNat)
 case atStart => exact ⟨0, by omega, rfl, rfl, Below.refl _ _⟩
 obtain ⟨k, hk, rfl, rfl, hb⟩ := hrel
 have HB := J hb
 clear hb
 by_cases hlt : k < 6
 ·have i1 : (k : Int) < 6 := by omega
  have HS := J (best_succ l k)
  generalize (List.range k).foldl (G.bestStep l) 0 = best at HS ⊢
  go_wp2_with fail
  refine (bufFirst S g v l k _ (HH.u.below HB.u)).mono ?_
  rintro e w1 ⟨rfl, hb1⟩
  have HB1 := J (HB.u.trans (hb1.mono HB.u.size))
  clear hb1
  have HU := J (show G.bestStep l best k = if 0 < G.firstN l k ∧ (best = 0 ∨ G.firstN l k < best) then G.firstN l k else best from rfl)
  generalize G.firstN l k = f at HU ⊢
  by_cases q1 : 0 < f
  ·by_cases q2 : best = 0
   ·have HE := J (show f = (List.range (k + 1)).foldl (G.bestStep l) 0 by rw [HS.u, HU.u, if_pos ⟨q1, .inl q2⟩])
    subst q2
    go_wp2_with fail
    go_roundw
    case rel => exact ⟨k + 1, by omega, by go_num, by rw [← HE.u], HB1.u⟩
    case measure => simp [intOf]; omega
   by_cases q3 : f < best
   ·have HE := J (show f = (List.range (k + 1)).foldl (G.bestStep l) 0 by rw [HS.u, HU.u, if_pos ⟨q1, .inr q3⟩])
    go_wp2_with fail
    go_roundw
    case rel => exact ⟨k + 1, by omega, by go_num, by rw [← HE.u], HB1.u⟩
    case measure => simp [intOf]; omega
   have HE := J (show best = (List.range (k + 1)).foldl (G.bestStep l) 0 by rw [HS.u, HU.u, if_neg (by omega)])
   have q4 : ((best == 0) = true ∨ f < best) = False := by simp only [eq_iff_iff, iff_false, beq_iff_eq]; omega
   have q2b : (best == 0) = false := by simp only [beq_eq_false_iff_ne]; exact q2
   have q3' : best ≤ f := by omega
   clear q3
   go_wp2_with fail
   go_roundw
   case rel => exact ⟨k + 1, by omega, by go_num, by rw [← HE.u], HB1.u⟩
   case measure => simp [intOf]; omega
  have HE := J (show best = (List.range (k + 1)).foldl (G.bestStep l) 0 by rw [HS.u, HU.u, if_neg (by omega)])
  have q1' : f ≤ 0 := by omega
  clear q1
  go_wp2_with fail
  go_roundw
  case rel => exact ⟨k + 1, by omega, by go_num, by rw [← HE.u], HB1.u⟩
  case measure => simp [intOf]; omega
 have hke : k = 6 := by omega
 subst hke
 have HF := J (show ReadPost w (.tuple #[.int .i64 (G.nextN l), .bool (decide (0 < G.nextN l))]) (.returned (.tuple #[.int .i64 ((List.range 6).foldl (G.bestStep l) 0), .bool (decide (0 < (List.range 6).foldl (G.bestStep l) 0))])) wr from ⟨rfl, HB.u⟩)
 generalize (List.range 6).foldl (G.bestStep l) 0 = best at HF ⊢
 go_wp2_with fail
 go_ret2
 exact HF.u
open Go.RowKit
def RunPost (T : TypeId) (S : Nat → Prop) (w : World) (g : Nat) (l : List G.Req) (id pod : Int) (e : Ending) (w' : World) : Prop :=
 e = .returned (.int .i64 (G.runErr l id)) ∧ (∃ v, BAt T S w' g v (G.runLst l id pod)) ∧ G.Chg S w w'
theorem bufRun (S : Nat → Prop) (g : Nat) (v : Value) (l : List G.Req) (id pod : Int) (w : World) (h : BAt 126 S w g v l) :
  Calls Tryz.prog 113 #[.pointer (some ⟨g, 0, none⟩), .int .i64 id, .int .i64 pod] w (RunPost 126 S w g l id pod) := by
 have HH := J h
 clear h
 cases hq : G.reqAt l id with
 | none =>
  have HF := J (show RunPost 126 S w g l id pod (.returned (.int .i64 4)) w from ⟨by unfold G.runErr; rw [hq], ⟨v, by unfold G.runLst; rw [hq]; exact HH.u⟩, G.Chg.refl _ _⟩)
  have HQ := J hq
  clear hq
  go_enter Tryz.func113, Tryz.ntmps113
  go_wp2_with fail
  refine (bufFind_none S g v l id _ HH.u HQ.u).mono ?_
  rintro e w1 ⟨rfl, rfl⟩
  go_wp2_with fail
  go_ret
  exact HF.u
 | some r =>
  obtain ⟨k, rfl, hr⟩ := reqAt_some hq
  obtain ⟨b, cap, rfl, hS, _, _, hbl, c0, c1, c2, c3, c4, fz⟩ := HH.u.req hr
  have hkl := G.get_lt hr
  have HR := J hr; have HQ := J hq; have HK := J hkl
  clear hr hq hkl c0 c2 c3 c4 fz hbl
  go_enter Tryz.func113, Tryz.ntmps113
  go_wp2_with fail
  refine (bufFind S g b cap _ l k _ HH.u HK.u).mono ?_
  rintro e w1 ⟨rfl, rfl⟩
  go_wp2_with fail
  refine (bufFirst S g _ l r.source _ HH.u).mono ?_
  rintro e w1 ⟨rfl, hb1⟩
  have HB1 := J hb1
  clear hb1 c1
  by_cases hf : G.firstN l r.source = (k : Int) + 1
  ·have HF := J hf
   obtain ⟨b', cap', e, hS', _, _, hbl, c0, c1, c2, c3, c4, fz⟩ := (HH.u.below HB1.u).req HR.u
   cases e
   have f3 := fz (k * 5 + 3); have f4 := fz (k * 5 + 4)
   clear fz c0 c1 c2
   rw [hf]
   clear hf
   go_wp2_with fail
   go_ret
   obtain ⟨p1, p2⟩ := (HH.u.below HB1.u).put (by decide) (k := k) (j := 3) (r' := { r with fate := 2 }) (u := .int .i64 2) HR.u (by decide) rfl
   obtain ⟨p3, p4⟩ := p1.put (by decide) (k := k) (j := 4) (r' := { r with fate := 2, pod := pod }) (u := .int .i64 pod) (List.getElem?_set_self HK.u) (by decide) rfl
   rw [List.set_set] at p3
   refine ⟨?_, ⟨.slice (some ⟨b, 0, none⟩) l.length cap, ?_⟩, ((G.Chg.of_below HB1.u (Nat.le_refl _)).trans p2).trans p4⟩
   ·unfold G.runErr; rw [HQ.u]; simp only; rw [if_pos HF.u]; rfl
   unfold G.runLst; rw [HQ.u]; simp only; rw [if_pos HF.u, show ((k : Int) + 1 - 1).toNat = k by omega]; exact p3
  have HF := J (show RunPost 126 S w g l ((k : Int) + 1) pod (.returned (.int .i64 7)) w1 from ⟨by unfold G.runErr; rw [HQ.u]; simp only; rw [if_neg hf], ⟨_, by unfold G.runLst; rw [HQ.u]; simp only; rw [if_neg hf]; exact HH.u.below HB1.u⟩, G.Chg.of_below HB1.u (Nat.le_refl _)⟩)
  generalize G.firstN l r.source = f at hf ⊢
  have hf2 : ((k : Int) + 1 == f) = false := by simp only [beq_eq_false_iff_ne]; exact fun e => hf e.symm
  have hf3 : (f == (k : Int) + 1) = false := by simp only [beq_eq_false_iff_ne]; exact hf
  go_wp2_with fail
  go_ret
  exact HF.u
def DonePost (T : TypeId) (S : Nat → Prop) (w : World) (g : Nat) (l : List G.Req) (id : Int) (e : Ending) (w' : World) : Prop :=
 e = .returned (.tuple #[.int .i64 (G.doneNum l id), .int .i64 (G.doneErr l id)]) ∧ (∃ v, BAt T S w' g v (G.doneLst l id)) ∧ G.Chg S w w'
theorem bufDone (S : Nat → Prop) (g : Nat) (v : Value) (l : List G.Req) (id : Int) (w : World) (h : BAt 126 S w g v l) :
  Calls Tryz.prog 76 #[.pointer (some ⟨g, 0, none⟩), .int .i64 id] w (DonePost 126 S w g l id) := by
 have HH := J h
 clear h
 cases hq : G.reqAt l id with
 | none =>
  have HF := J (show DonePost 126 S w g l id (.returned (.tuple #[.int .i64 0, .int .i64 4])) w from ⟨by unfold G.doneErr G.doneNum; rw [hq], ⟨v, by unfold G.doneLst; rw [hq]; exact HH.u⟩, G.Chg.refl _ _⟩)
  have HQ := J hq
  clear hq
  go_enter Tryz.func76, Tryz.ntmps76
  go_wp2_with fail
  refine (bufFind_none S g v l id _ HH.u HQ.u).mono ?_
  rintro e w1 ⟨rfl, rfl⟩
  go_wp2_with fail
  go_ret2
  exact HF.u
 | some r =>
  obtain ⟨k, rfl, hr⟩ := reqAt_some hq
  obtain ⟨b, cap, rfl, hS, _, _, hbl, c0, c1, c2, c3, c4, fz⟩ := HH.u.req hr
  have hkl := G.get_lt hr
  have f3 := fz (k * 5 + 3)
  have HR := J hr; have HQ := J hq; have HK := J hkl
  clear hr hq hkl c0 c1 c2 fz hbl
  go_enter Tryz.func76, Tryz.ntmps76
  go_wp2_with fail
  refine (bufFind S g b cap _ l k _ HH.u HK.u).mono ?_
  rintro e w1 ⟨rfl, rfl⟩
  by_cases hf : r.fate = 2
  ·have HF := J hf
   rw [hf] at c3
   clear hf
   go_wp2_with fail
   go_ret2
   obtain ⟨p1, p2⟩ := HH.u.put (by decide) (k := k) (j := 3) (r' := { r with fate := 3 }) (u := .int .i64 3) HR.u (by decide) rfl
   refine ⟨?_, ⟨.slice (some ⟨b, 0, none⟩) l.length cap, ?_⟩, p2⟩
   ·unfold G.doneErr G.doneNum; rw [HQ.u]; simp only; rw [if_pos HF.u, if_pos HF.u]; rfl
   unfold G.doneLst; rw [HQ.u]; simp only; rw [if_pos HF.u, show ((k : Int) + 1 - 1).toNat = k by omega]; exact p1
  have HF := J (show DonePost 126 S w g l ((k : Int) + 1) (.returned (.tuple #[.int .i64 0, .int .i64 7])) w from ⟨by unfold G.doneErr G.doneNum; rw [HQ.u]; simp only; rw [if_neg hf, if_neg hf], ⟨_, by unfold G.doneLst; rw [HQ.u]; simp only; rw [if_neg hf]; exact HH.u⟩, G.Chg.refl _ _⟩)
  have hf3 : (r.fate == 2) = false := by simp only [beq_eq_false_iff_ne]; exact hf
  go_wp2_with fail
  go_ret2
  exact HF.u
open Go.RowKit
theorem bufInt_info : (Tryz.prog.info? 3).map (fun i => (i.zero, i.size, i.bytes)) = some (some (.int .i64 0), 1, 8) := by kernel_rfl
def EndPost (T : TypeId) (S : Nat → Prop) (w : World) (g : Nat) (v : Value) (l : List G.Req) (p : G.Req → Bool) (fate : Int) (e : Ending) (w' : World) : Prop :=
 ∃ v', e = .returned v' ∧ G.OwnRow (fun b => w.heap.size ≤ b) w' 3 1 v' (G.idsF p l).length ((G.idsF p l).map (.int .i64)) ∧ BAt T S w' g v (l.map (G.setF p fate)) ∧ G.Chg S w w'
structure EndMid (T : TypeId) (S : Nat → Prop) (w wr : World) (g : Nat) (v : Value) (lb : List G.Req) (ids : List Int) (o : Value) : Prop where
 buf : BAt T S wr g v lb
 u : G.OwnRow (fun b => w.heap.size ≤ b) wr 3 1 o ids.length (ids.map (.int .i64))
 chg : G.Chg S w wr
 low : ∀ b, S b → b < w.heap.size
theorem EndMid.alloc {T : TypeId} {S : Nat → Prop} {w wr : World} {g : Nat} {v : Value} {lb : List G.Req} {ids : List Int} {o : Value} (h : EndMid T S w wr g v lb ids o) (ob : Obj) : EndMid T S w (wr.alloc ob) g v lb ids o :=
 ⟨h.buf.alloc ob, h.u.alloc ob, h.chg.alloc ob, h.low⟩
theorem EndMid.below {T : TypeId} {S : Nat → Prop} {w wr w1 : World} {g : Nat} {v : Value} {lb : List G.Req} {ids : List Int} {o : Value} (h : EndMid T S w wr g v lb ids o) (hb : Below wr.heap.size wr w1) : EndMid T S w w1 g v lb ids o :=
 ⟨h.buf.below hb, h.u.below hb (Nat.le_refl _), h.chg.step_below hb h.chg.size, h.low⟩
def EndRun (T : TypeId) (S : Nat → Prop) (w wr : World) (g : Nat) (v : Value) (l : List G.Req) (p : G.Req → Bool) (fate : Int) (k : Nat) (o : Value) : Prop :=
 EndMid T S w wr g v (G.upTo (G.setF p fate) l k) (G.idsF p (l.take k)) o
theorem EndRun.start {T : TypeId} {S : Nat → Prop} {w : World} {g : Nat} {v : Value} {l : List G.Req} {p : G.Req → Bool} {fate : Int} (h : BAt T S w g v l) : EndRun T S w w g v l p fate 0 (.slice none 0 0) :=
 ⟨by rw [G.upTo_zero]; exact h, G.OwnRow.nil _ _ _ _, G.Chg.refl _ _, h.lim⟩
theorem EndRun.done {T : TypeId} {S : Nat → Prop} {w wr : World} {g : Nat} {v : Value} {l : List G.Req} {p : G.Req → Bool} {fate : Int} {o : Value} (h : EndRun T S w wr g v l p fate l.length o) : EndPost T S w g v l p fate (.returned o) wr := by
 have hb := h.buf; have ho := h.u
 rw [G.upTo_all] at hb
 rw [List.take_length] at ho
 exact ⟨o, rfl, ho, hb, h.chg⟩
theorem idsF_no {p : G.Req → Bool} {l : List G.Req} {k : Nat} {r : G.Req} (hr : l[k]? = some r) (hp : p r = false) : G.idsF p (l.take (k + 1)) = G.idsF p (l.take k) := by
 unfold G.idsF; rw [G.filter_snoc hr, hp]; simp
theorem idsF_yes {p : G.Req → Bool} {l : List G.Req} {k : Nat} {r : G.Req} (hr : l[k]? = some r) (hp : p r = true) : G.idsF p (l.take (k + 1)) = G.idsF p (l.take k) ++ [r.id] := by
 unfold G.idsF; rw [G.filter_snoc hr, hp]; simp
theorem idsF_le (p : G.Req → Bool) (l : List G.Req) (k : Nat) : (G.idsF p (l.take k)).length ≤ l.length := by
 unfold G.idsF; rw [List.length_map]
 exact Nat.le_trans (List.length_filter_le _ _) (by rw [List.length_take]; omega)
theorem EndMid.skip {T : TypeId} {S : Nat → Prop} {w wr : World} {g : Nat} {v : Value} {l : List G.Req} {p : G.Req → Bool} {fate : Int} {k : Nat} {o : Value} {r : G.Req} (h : EndMid T S w wr g v (G.upTo (G.setF p fate) l k) (G.idsF p (l.take k)) o) (hr : l[k]? = some r) (hp : p r = false) : EndRun T S w wr g v l p fate (k + 1) o := by
 unfold EndRun
 rw [idsF_no hr hp, G.upTo_same hr (by unfold G.setF; rw [hp]; rfl)]
 exact h
theorem EndMid.put {T : TypeId} {S : Nat → Prop} {w wr : World} {g b cap n : Nat} {l : List G.Req} {p : G.Req → Bool} {fate : Int} {k : Nat} {ids : List Int} {o : Value} {r : G.Req} (h : EndMid T S w wr g (.slice (some ⟨b, 0, none⟩) n cap) (G.upTo (G.setF p fate) l k) ids o) (hT : T ≠ 105) (hr : l[k]? = some r) (hp : p r = true) :
  EndMid T S w (wr.setCell ⟨b, k * 5 + 3, none⟩ (.int .i64 fate)) g (.slice (some ⟨b, 0, none⟩) n cap) (G.upTo (G.setF p fate) l (k + 1)) ids o := by
 obtain ⟨p1, p2⟩ := h.buf.put hT (k := k) (j := 3) (r' := { r with fate := fate }) (u := .int .i64 fate) ((G.upTo_get _ _ _).trans hr) (by decide) rfl
 have e : (G.upTo (G.setF p fate) l k).set k { r with fate := fate } = G.upTo (G.setF p fate) l (k + 1) := by
  rw [← G.upTo_succ hr]; unfold G.setF; rw [hp]; rfl
 rw [e] at p1
 obtain ⟨b', cap', e', hS, _⟩ := h.buf.row.form (by rw [G.upTo_length]; have := G.get_lt hr; omega)
 cases e'
 exact ⟨p1, h.u.other (p := ⟨b, k * 5 + 3, none⟩) (by have := h.low b hS; simp; omega) _, h.chg.trans p2, h.low⟩
theorem EndMid.app {T : TypeId} {S : Nat → Prop} {w wr w3 : World} {g b2 cap2 : Nat} {v : Value} {l : List G.Req} {p : G.Req → Bool} {fate : Int} {k : Nat} {o : Value} {r : G.Req} {ob : Obj} (h : EndMid T S w wr g v (G.upTo (G.setF p fate) l (k + 1)) (G.idsF p (l.take k)) o) (hr : l[k]? = some r) (hp : p r = true)
  (h1 : w3.ownsRow 0 3 1 (.slice (some ⟨b2, 0, none⟩) ((G.idsF p (l.take k)).length + 1) cap2) ((G.idsF p (l.take k)).length + 1) ((G.idsF p (l.take k)).map (.int .i64) ++ [.int .i64 r.id])) (hg : (wr.alloc ob).grownBy w3 o.ownBlock) (ho : o.ownBlock = some b2 ∨ b2 = wr.heap.size + 1) (hlt : b2 < w3.heap.size) :
  EndRun T S w w3 g v l p fate (k + 1) (.slice (some ⟨b2, 0, none⟩) ((G.idsF p (l.take k)).length + 1) cap2) := by
 have z : (wr.alloc ob).heap.size = wr.heap.size + 1 := by simp
 have z1 := h.chg.size
 obtain ⟨r1, r2⟩ := (h.u.alloc ob).app h1 hg (ho.imp id (fun e => by rw [e, z])) hlt
 unfold EndRun
 refine ⟨(h.buf.alloc ob).chg r2 (fun b hb hn => by have := h.low b hb; omega), ?_, (h.chg.alloc ob).step r2 (fun b hb => .inr hb), h.low⟩
 rw [idsF_yes hr hp, List.length_append, List.map_append]
 refine r1.mono fun c _ hc => ?_
 rcases hc with hc | hc
 ·exact hc
 omega
/- end with the function (*buffer.Buffer).Late$1 -/
theorem bufLate_end (B : Nat) (p : G.Req → Bool) (fate : Int) (S : Nat → Prop) (g : Nat) (v : Value) (l : List G.Req) (w : World) (h : BAt 126 S w g v l)
  (hp : ∀ (r : G.Req) (W : World), G.Chg S w W → Calls Tryz.prog 105 #[.agg #[.int .i64 r.id, .int .i64 r.source, .int .i64 r.till, .int .i64 r.fate, .int .i64 r.pod], .pointer (some ⟨B, 0, none⟩)] W fun e W' => e = .returned (.bool (p r)) ∧ Below W.heap.size W W') :
  Calls Tryz.prog 104 #[.pointer (some ⟨g, 0, none⟩), .int .i64 fate, .func (.func 105) #[] #[.pointer (some ⟨B, 0, none⟩)]] w (EndPost 126 S w g v l p fate) := by
 obtain ⟨A, cap0, rfl, _, _, _⟩ := h.row.slice
 have hc := h.head.here (i := 0) rfl
 have hs := h.small
 have HH := J h; have HP := J hp
 clear h hp
 obtain ⟨i0, hi, hz0, hz1, hz2⟩ := info_parts bufInt_info
 go_enter Tryz.func104, Tryz.ntmps104
 go_wp2_with fail
 go_loopw [7, 15] (fun o i wr => ∃ k : Nat, k ≤ l.length ∧ i = .int .i64 k ∧ EndRun 126 S w wr g (.slice A l.length cap0) l p fate k o) (fun _ i _ => l.length - (intOf i).toNat)
 case atStart => exact ⟨0, by omega, rfl, EndRun.start HH.u⟩
 clear hc
 obtain ⟨k, hk, rfl, hr0⟩ := hrel
 obtain ⟨A7, c7, rfl, _, _, _⟩ := EndMid.u hr0 |>.slice
 have HR0 := J hr0
 clear hr0
 by_cases hlt : k < l.length
 ·obtain ⟨r, hr⟩ := G.get_some l hlt
  obtain ⟨b, cap', e, hS, _, _, hbl, c0, c1, c2, c3, c4, _⟩ := HR0.u.buf.req ((G.upTo_get _ _ _).trans hr)
  rw [G.upTo_length] at e
  cases e
  have i0' : (0 : Int) ≤ (k : Int) := by omega
  have i1 : (k : Int) < (l.length : Int) := by omega
  have HR1 := J (HR0.u.alloc (.cells #[.int .i64 r.id, .int .i64 r.source, .int .i64 r.till, .int .i64 r.fate, .int .i64 r.pod] 105))
  have HX := J (G.At.made wr 105 #[.int .i64 r.id, .int .i64 r.source, .int .i64 r.till, .int .i64 r.fate, .int .i64 r.pod])
  have HR := J hr
  clear hr
  go_wp2_with fail
  refine (HP.u r _ HR1.u.chg).mono ?_
  rintro e w1 ⟨rfl, hb1⟩
  have HR2 := J (HR1.u.below hb1)
  have hX := HX.u.below hb1 (by simp)
  have x0 := hX.here (i := 0) rfl
  have HX1 := J hX
  clear hX hb1 c0 c1 c2 c3 c4 hbl
  cases hpm : p r
  ·have HN := J (HR2.u.skip HR.u hpm)
   clear x0
   go_wp2_with fail
   go_roundw
   case rel => exact ⟨k + 1, by omega, by go_num, HN.u⟩
   case measure => simp [intOf]; omega
  have hc := HR2.u.buf.head.here (i := 0) rfl
  obtain ⟨b', cap', e, hS', _, _, hbl, c0, c1, c2, c3, c4, fz⟩ := HR2.u.buf.req ((G.upTo_get _ _ _).trans HR.u)
  rw [G.upTo_length] at e
  cases e
  have f3 := fz (k * 5 + 3)
  clear c0 c1 c2 c4 fz x0
  have HQ := J (HR2.u.put (fate := fate) (by decide) HR.u hpm)
  have HXp := J (HX1.u.other (p := ⟨b, k * 5 + 3, none⟩) (by
   have := HR0.u.buf.lim b hS'
   intro e; simp at e; omega) (.int .i64 fate))
  have HS' := J hS'
  go_upto_region 7 with fail
  generalize w1.setCell ⟨b, k * 5 + 3, none⟩ (.int .i64 fate) = w2 at HQ HXp ⊢
  have x0' := HXp.u.here (i := 0) rfl
  clear hc c3 f3 hbl
  have hle := idsF_le p l (k + 1)
  have hle0 := idsF_le p l k
  have hm3 := J (show (G.idsF p (l.take k)).length + 1 ≤ maxLen by simp only [maxLen]; omega)
  have hm4 := J (show ((G.idsF p (l.take k)).length + 1) * 8 ≤ 140737488355328 by omega)
  clear hle hle0
  go_wp2_with (at_builtin; refine wpList_append_lies _ (by rfl) (.tmp 31) (.tmp 34) 68 (by rfl) 0 3 i0 (.int .i64 0) 1 8 Tryz.underlying68 hi hz0 hz1 hz2 rfl (by decide) (.slice A7 (G.idsF p (l.take k)).length c7) _ _ rfl (HQ.u.u.alloc _).owns ⟨w2.heap.size, 0, none⟩ 1 1 [.int .i64 r.id] rfl rfl (buf_cells_in rfl) (by simp [Value.oneCell']) (by decide) hm3.u hm4.u (Nat.zero_le _) _ rfl ?_)
  intro b2 cap2 w3 hown hg ho hlt2
  have HN := J (HQ.u.app HR.u hpm hown hg ho hlt2)
  clear hown hg ho hlt2 x0'
  go_wp2_with fail
  go_roundw
  case rel => exact ⟨k + 1, by omega, by go_num, HN.u⟩
  case measure => simp [intOf]; omega
 have hke : k = l.length := by omega
 subst hke
 have HF := J HR0.u.done
 go_wp2_with fail
 go_ret
 exact HF.u
/- end with the function (*buffer.Buffer).Lost$1 -/
theorem bufLost_end (B : Nat) (p : G.Req → Bool) (fate : Int) (S : Nat → Prop) (g : Nat) (v : Value) (l : List G.Req) (w : World) (h : BAt 126 S w g v l)
  (hp : ∀ (r : G.Req) (W : World), G.Chg S w W → Calls Tryz.prog 117 #[.agg #[.int .i64 r.id, .int .i64 r.source, .int .i64 r.till, .int .i64 r.fate, .int .i64 r.pod], .pointer (some ⟨B, 0, none⟩)] W fun e W' => e = .returned (.bool (p r)) ∧ Below W.heap.size W W') :
  Calls Tryz.prog 104 #[.pointer (some ⟨g, 0, none⟩), .int .i64 fate, .func (.func 117) #[] #[.pointer (some ⟨B, 0, none⟩)]] w (EndPost 126 S w g v l p fate) := by
 obtain ⟨A, cap0, rfl, _, _, _⟩ := h.row.slice
 have hc := h.head.here (i := 0) rfl
 have hs := h.small
 have HH := J h; have HP := J hp
 clear h hp
 obtain ⟨i0, hi, hz0, hz1, hz2⟩ := info_parts bufInt_info
 go_enter Tryz.func104, Tryz.ntmps104
 go_wp2_with fail
 go_loopw [7, 15] (fun o i wr => ∃ k : Nat, k ≤ l.length ∧ i = .int .i64 k ∧ EndRun 126 S w wr g (.slice A l.length cap0) l p fate k o) (fun _ i _ => l.length - (intOf i).toNat)
 case atStart => exact ⟨0, by omega, rfl, EndRun.start HH.u⟩
 clear hc
 obtain ⟨k, hk, rfl, hr0⟩ := hrel
 obtain ⟨A7, c7, rfl, _, _, _⟩ := EndMid.u hr0 |>.slice
 have HR0 := J hr0
 clear hr0
 by_cases hlt : k < l.length
 ·obtain ⟨r, hr⟩ := G.get_some l hlt
  obtain ⟨b, cap', e, hS, _, _, hbl, c0, c1, c2, c3, c4, _⟩ := HR0.u.buf.req ((G.upTo_get _ _ _).trans hr)
  rw [G.upTo_length] at e
  cases e
  have i0' : (0 : Int) ≤ (k : Int) := by omega
  have i1 : (k : Int) < (l.length : Int) := by omega
  have HR1 := J (HR0.u.alloc (.cells #[.int .i64 r.id, .int .i64 r.source, .int .i64 r.till, .int .i64 r.fate, .int .i64 r.pod] 105))
  have HX := J (G.At.made wr 105 #[.int .i64 r.id, .int .i64 r.source, .int .i64 r.till, .int .i64 r.fate, .int .i64 r.pod])
  have HR := J hr
  clear hr
  go_wp2_with fail
  refine (HP.u r _ HR1.u.chg).mono ?_
  rintro e w1 ⟨rfl, hb1⟩
  have HR2 := J (HR1.u.below hb1)
  have hX := HX.u.below hb1 (by simp)
  have x0 := hX.here (i := 0) rfl
  have HX1 := J hX
  clear hX hb1 c0 c1 c2 c3 c4 hbl
  cases hpm : p r
  ·have HN := J (HR2.u.skip HR.u hpm)
   clear x0
   go_wp2_with fail
   go_roundw
   case rel => exact ⟨k + 1, by omega, by go_num, HN.u⟩
   case measure => simp [intOf]; omega
  have hc := HR2.u.buf.head.here (i := 0) rfl
  obtain ⟨b', cap', e, hS', _, _, hbl, c0, c1, c2, c3, c4, fz⟩ := HR2.u.buf.req ((G.upTo_get _ _ _).trans HR.u)
  rw [G.upTo_length] at e
  cases e
  have f3 := fz (k * 5 + 3)
  clear c0 c1 c2 c4 fz x0
  have HQ := J (HR2.u.put (fate := fate) (by decide) HR.u hpm)
  have HXp := J (HX1.u.other (p := ⟨b, k * 5 + 3, none⟩) (by
   have := HR0.u.buf.lim b hS'
   intro e; simp at e; omega) (.int .i64 fate))
  have HS' := J hS'
  go_upto_region 7 with fail
  generalize w1.setCell ⟨b, k * 5 + 3, none⟩ (.int .i64 fate) = w2 at HQ HXp ⊢
  have x0' := HXp.u.here (i := 0) rfl
  clear hc c3 f3 hbl
  have hle := idsF_le p l (k + 1)
  have hle0 := idsF_le p l k
  have hm3 := J (show (G.idsF p (l.take k)).length + 1 ≤ maxLen by simp only [maxLen]; omega)
  have hm4 := J (show ((G.idsF p (l.take k)).length + 1) * 8 ≤ 140737488355328 by omega)
  clear hle hle0
  go_wp2_with (at_builtin; refine wpList_append_lies _ (by rfl) (.tmp 31) (.tmp 34) 68 (by rfl) 0 3 i0 (.int .i64 0) 1 8 Tryz.underlying68 hi hz0 hz1 hz2 rfl (by decide) (.slice A7 (G.idsF p (l.take k)).length c7) _ _ rfl (HQ.u.u.alloc _).owns ⟨w2.heap.size, 0, none⟩ 1 1 [.int .i64 r.id] rfl rfl (buf_cells_in rfl) (by simp [Value.oneCell']) (by decide) hm3.u hm4.u (Nat.zero_le _) _ rfl ?_)
  intro b2 cap2 w3 hown hg ho hlt2
  have HN := J (HQ.u.app HR.u hpm hown hg ho hlt2)
  clear hown hg ho hlt2 x0'
  go_wp2_with fail
  go_roundw
  case rel => exact ⟨k + 1, by omega, by go_num, HN.u⟩
  case measure => simp [intOf]; omega
 have hke : k = l.length := by omega
 subst hke
 have HF := J HR0.u.done
 go_wp2_with fail
 go_ret
 exact HF.u
open Go.RowKit
theorem bufLate1 (B : Nat) (now : Int) (r : G.Req) (W : World) (h : G.At W B 3 #[.int .i64 now]) :
  Calls Tryz.prog 105 #[.agg #[.int .i64 r.id, .int .i64 r.source, .int .i64 r.till, .int .i64 r.fate, .int .i64 r.pod], .pointer (some ⟨B, 0, none⟩)] W fun e W' => e = .returned (.bool (G.isLate now r)) ∧ Below W.heap.size W W' := by
 have hB := J ((Below.refl W.heap.size W).alloc (Nat.le_refl _) (.cells #[.int .i64 r.id, .int .i64 r.source, .int .i64 r.till, .int .i64 r.fate, .int .i64 r.pod] 105))
 have hc : (W.alloc (.cells #[.int .i64 r.id, .int .i64 r.source, .int .i64 r.till, .int .i64 r.fate, .int .i64 r.pod] 105)).cell? ⟨B, 0, none⟩ = some (.int .i64 now) := (h.alloc _).here (i := 0) rfl
 have hc0 := h.here (i := 0) rfl
 clear h
 cases hf : (r.fate == 1)
 ·have HT := J (show G.isLate now r = false by unfold G.isLate; rw [hf]; rfl)
  go_enter Tryz.func105, Tryz.ntmps105
  go_wp2_with fail
  go_ret
  exact ⟨by rw [HT.u] <;> rfl, hB.u⟩
 by_cases ht : r.till ≤ now
 ·have HT := J (show G.isLate now r = true by unfold G.isLate; rw [hf]; simp [ht])
  go_enter Tryz.func105, Tryz.ntmps105
  go_wp2_with fail
  go_ret
  exact ⟨by rw [HT.u] <;> rfl, hB.u⟩
 have HT := J (show G.isLate now r = decide (r.till ≤ now) by unfold G.isLate; rw [hf]; rfl)
 clear ht
 go_enter Tryz.func105, Tryz.ntmps105
 go_wp2_with fail
 go_ret
 exact ⟨by rw [HT.u] <;> rfl, hB.u⟩
theorem bufLost1 (B : Nat) (pod : Int) (r : G.Req) (W : World) (h : G.At W B 3 #[.int .i64 pod]) :
  Calls Tryz.prog 117 #[.agg #[.int .i64 r.id, .int .i64 r.source, .int .i64 r.till, .int .i64 r.fate, .int .i64 r.pod], .pointer (some ⟨B, 0, none⟩)] W fun e W' => e = .returned (.bool (G.isLost pod r)) ∧ Below W.heap.size W W' := by
 have hB := J ((Below.refl W.heap.size W).alloc (Nat.le_refl _) (.cells #[.int .i64 r.id, .int .i64 r.source, .int .i64 r.till, .int .i64 r.fate, .int .i64 r.pod] 105))
 have hc : (W.alloc (.cells #[.int .i64 r.id, .int .i64 r.source, .int .i64 r.till, .int .i64 r.fate, .int .i64 r.pod] 105)).cell? ⟨B, 0, none⟩ = some (.int .i64 pod) := (h.alloc _).here (i := 0) rfl
 have hc0 := h.here (i := 0) rfl
 clear h
 cases hf : (r.fate == 2)
 ·have HT := J (show G.isLost pod r = false by unfold G.isLost; rw [hf]; rfl)
  go_enter Tryz.func117, Tryz.ntmps117
  go_wp2_with fail
  go_ret
  exact ⟨by rw [HT.u] <;> rfl, hB.u⟩
 cases ht : (r.pod == pod)
 ·have HT := J (show G.isLost pod r = false by unfold G.isLost; rw [hf, ht]; rfl)
  go_enter Tryz.func117, Tryz.ntmps117
  go_wp2_with fail
  go_ret
  exact ⟨by rw [HT.u] <;> rfl, hB.u⟩
 have HT := J (show G.isLost pod r = true by unfold G.isLost; rw [hf, ht]; rfl)
 go_enter Tryz.func117, Tryz.ntmps117
 go_wp2_with fail
 go_ret
 exact ⟨by rw [HT.u] <;> rfl, hB.u⟩
def LatePost (T : TypeId) (S : Nat → Prop) (w : World) (g : Nat) (v : Value) (l : List G.Req) (now : Int) (e : Ending) (w' : World) : Prop :=
 ∃ v', e = .returned (.tuple #[v', .int .i64 (G.lateErr now)]) ∧ G.OwnRow (fun b => w.heap.size ≤ b) w' 3 1 v' (G.lateIds l now).length ((G.lateIds l now).map (.int .i64)) ∧ BAt T S w' g v (G.lateLst l now) ∧ G.Chg S w w'
theorem late_no {T : TypeId} {S : Nat → Prop} {w w' : World} {g : Nat} {v : Value} {l : List G.Req} {now : Int} (h : BAt T S w' g v l) (hb : Below w.heap.size w w') (hn : G.timeOk now = false) : LatePost T S w g v l now (.returned (.tuple #[.slice none 0 0, .int .i64 1])) w' := by
 refine ⟨.slice none 0 0, by unfold G.lateErr; rw [hn]; rfl, ?_, ?_, G.Chg.of_below hb (Nat.le_refl _)⟩
 ·unfold G.lateIds; rw [hn]; exact G.OwnRow.nil _ _ _ _
 unfold G.lateLst; rw [hn]; exact h
theorem late_yes {T : TypeId} {S : Nat → Prop} {w w' : World} {ob : Obj} {g : Nat} {v v' : Value} {l : List G.Req} {now : Int} (hn : G.timeOk now = true) (ho : G.OwnRow (fun b => (w.alloc ob).heap.size ≤ b) w' 3 1 v' (G.idsF (G.isLate now) l).length ((G.idsF (G.isLate now) l).map (.int .i64))) (hb : BAt T S w' g v (l.map (G.setF (G.isLate now) 4))) (hc : G.Chg S (w.alloc ob) w') : LatePost T S w g v l now (.returned (.tuple #[v', .int .i64 0])) w' := by
 refine ⟨v', by unfold G.lateErr; rw [hn]; rfl, ?_, ?_, ((G.Chg.refl S w).alloc ob).trans hc⟩
 ·unfold G.lateIds; rw [hn]; exact ho.mono fun b _ hb => by simp at hb; omega
 unfold G.lateLst; rw [hn]; exact hb
theorem bufLate (S : Nat → Prop) (g : Nat) (v : Value) (l : List G.Req) (now : Int) (w : World) (h : BAt 126 S w g v l) :
  Calls Tryz.prog 62 #[.pointer (some ⟨g, 0, none⟩), .int .i64 now] w (LatePost 126 S w g v l now) := by
 have HH := J (h.alloc (.cells #[.int .i64 now] 3))
 have HL := J h.lim
 have HB := J ((Below.refl w.heap.size w).alloc (Nat.le_refl _) (.cells #[.int .i64 now] 3))
 have HX := J (G.At.made w 3 #[.int .i64 now])
 clear h
 by_cases h1 : now < 0
 ·have HF := J (late_no HH.u HB.u (show G.timeOk now = false by unfold G.timeOk; simp; omega))
  go_enter Tryz.func62, Tryz.ntmps62
  go_wp2_with fail
  go_ret2
  exact HF.u
 have h1' : 0 ≤ now := by omega
 clear h1
 by_cases h2 : 1099511627776 < now
 ·have HF := J (late_no HH.u HB.u (show G.timeOk now = false by unfold G.timeOk; simp; omega))
  go_enter Tryz.func62, Tryz.ntmps62
  go_wp2_with fail
  go_ret2
  exact HF.u
 have h2' : now ≤ 1099511627776 := by omega
 clear h2
 have HT := J (show G.timeOk now = true by unfold G.timeOk; simp; omega)
 go_enter Tryz.func62, Tryz.ntmps62
 go_wp2_with fail
 refine (bufLate_end w.heap.size (G.isLate now) 4 S g v l _ HH.u (fun r W hW => bufLate1 _ now r W (HX.u.chg hW (fun hs => Nat.lt_irrefl _ (HL.u _ hs))))).mono ?_
 rintro e w1 ⟨v', rfl, ho, hb, hc⟩
 have HF := J (late_yes HT.u ho hb hc)
 clear ho hb hc
 go_wp2_with fail
 go_ret2
 exact HF.u
def LostPost (T : TypeId) (S : Nat → Prop) (w : World) (g : Nat) (v : Value) (l : List G.Req) (pod : Int) (e : Ending) (w' : World) : Prop :=
 ∃ v', e = .returned v' ∧ G.OwnRow (fun b => w.heap.size ≤ b) w' 3 1 v' (G.idsF (G.isLost pod) l).length ((G.idsF (G.isLost pod) l).map (.int .i64)) ∧ BAt T S w' g v (G.lostLst l pod) ∧ G.Chg S w w'
theorem bufLost (S : Nat → Prop) (g : Nat) (v : Value) (l : List G.Req) (pod : Int) (w : World) (h : BAt 126 S w g v l) :
  Calls Tryz.prog 74 #[.pointer (some ⟨g, 0, none⟩), .int .i64 pod] w (LostPost 126 S w g v l pod) := by
 have HH := J (h.alloc (.cells #[.int .i64 pod] 3))
 have HL := J h.lim
 have HX := J (G.At.made w 3 #[.int .i64 pod])
 clear h
 go_enter Tryz.func74, Tryz.ntmps74
 go_wp2_with fail
 refine (bufLost_end w.heap.size (G.isLost pod) 5 S g v l _ HH.u (fun r W hW => bufLost1 _ pod r W (HX.u.chg hW (fun hs => Nat.lt_irrefl _ (HL.u _ hs))))).mono ?_
 rintro e w1 ⟨v', rfl, ho, hb, hc⟩
 have HF := J (show LostPost 126 S w g v l pod (.returned v') w1 from ⟨v', rfl, ho.mono fun b _ hb => by simp at hb; omega, hb, ((G.Chg.refl S w).alloc _).trans hc⟩)
 clear ho hb hc
 go_wp2_with fail
 go_ret
 exact HF.u
open Go.RowKit
def BufNewPost (T : TypeId) (w : World) (e : Ending) (w' : World) : Prop := ∃ g, e = .returned (.pointer (some ⟨g, 0, none⟩)) ∧ BAt T (G.Plus (fun _ => False) w w') w' g (.slice none 0 0) [] ∧ Below w.heap.size w w'
theorem bufNew (w : World) : Calls Tryz.prog 15 #[] w (BufNewPost 126 w) := by
 have HF := J (show BufNewPost 126 w (.returned (.pointer (some ⟨w.heap.size, 0, none⟩))) (w.alloc (.cells #[.slice none 0 0] 126)) from
  ⟨_, rfl, ⟨G.At.made w _ _, G.OwnRow.nil _ _ _ _, .inr ⟨Nat.le_refl _, by simp⟩, by simp, fun b hb => by rcases hb with hb | hb; exact hb.elim; exact hb.2⟩, (Below.refl _ _).alloc (Nat.le_refl _) _⟩)
 go_enter Tryz.func15, Tryz.ntmps15
 go_wp2_with fail
 go_ret
 exact HF.u
open Go.RowKit
def secOf (y m d h mi s sh : Int) : Int := G.dayno y m d * 86400 + h * 3600 + mi * 60 + s - 60 * sh
def okClock (h mi s sh : Int) : Prop := -900 ≤ sh ∧ sh ≤ 900 ∧ 0 ≤ h ∧ h ≤ 23 ∧ 0 ≤ mi ∧ mi ≤ 59 ∧ 0 ≤ s ∧ s ≤ 59
def okCivil (y m d h mi s sh : Int) : Prop := okDate y m d ∧ okClock h mi s sh ∧ -100000000000 ≤ secOf y m d h mi s sh ∧ secOf y m d h mi s sh ≤ 100000000000
instance (h mi s sh : Int) : Decidable (okClock h mi s sh) := by unfold okClock; infer_instance
instance (y m d h mi s sh : Int) : Decidable (okCivil y m d h mi s sh) := by unfold okCivil; infer_instance
open Go.RowKit
theorem refIn_yes (n lo hi : Int) (w : World) (h0 : lo ≤ n) (h1 : n ≤ hi) : Calls Tryz.prog 6 #[.int .i64 n, .int .i64 lo, .int .i64 hi] w fun e w' => e = .returned (.bool true) ∧ w = w' := by
 go_enter Tryz.func6, Tryz.ntmps6
 go_wp2
 go_ret
 exact ⟨rfl, rfl⟩
theorem refIn_no (n lo hi : Int) (w : World) (h : n < lo ∨ hi < n) : Calls Tryz.prog 6 #[.int .i64 n, .int .i64 lo, .int .i64 hi] w fun e w' => e = .returned (.bool false) ∧ w = w' := by
 by_cases c : n < lo
 ·clear h
  go_enter Tryz.func6, Tryz.ntmps6
  go_wp2
  go_ret
  exact ⟨rfl, rfl⟩
 have h' : hi < n := by omega
 have c' : lo ≤ n := by omega
 have c'' : decide (n ≤ hi) = false := decide_eq_false (by omega)
 clear h c
 go_enter Tryz.func6, Tryz.ntmps6
 go_wp2
 go_ret
 exact ⟨rfl, rfl⟩
def inB (n lo hi : Int) : Bool := decide (lo ≤ n) && decide (n ≤ hi)
theorem inB_yes {n lo hi : Int} (h0 : lo ≤ n) (h1 : n ≤ hi) : inB n lo hi = true := by unfold inB; simp [h0, h1]
theorem inB_no {n lo hi : Int} (h : n < lo ∨ hi < n) : inB n lo hi = false := by unfold inB; simp; omega
theorem refIn (n lo hi : Int) (w : World) : Calls Tryz.prog 6 #[.int .i64 n, .int .i64 lo, .int .i64 hi] w fun e w' => e = .returned (.bool (inB n lo hi)) ∧ w = w' := by
 by_cases h : lo ≤ n ∧ n ≤ hi
 ·rw [inB_yes h.1 h.2]; exact refIn_yes n lo hi w h.1 h.2
 rw [inB_no (by omega)]; exact refIn_no n lo hi w (by omega)
theorem refLeap_yes (y : Int) (w : World) (h : G.leap y) : Calls Tryz.prog 171 #[.int .i64 y] w fun e w' => e = .returned (.bool true) ∧ w = w' := by
 by_cases h400 : y % 400 = 0
 ·have k400 : (y.tmod 400 == 0) = true := by rw [tmod_zero]; simp [h400]
  clear h h400
  go_enter Tryz.func171, Tryz.ntmps171
  go_wp2
  go_ret
  exact ⟨rfl, rfl⟩
 have k400 : (y.tmod 400 == 0) = false := by rw [tmod_zero]; simp [h400]
 have h4 : (y.tmod 4 == 0) = true := by rw [tmod_zero]; unfold G.leap at h; simp; omega
 have k100 : (y.tmod 100 != 0) = true := by rw [tmod_zero_ne]; unfold G.leap at h; simp; omega
 clear h h400
 go_enter Tryz.func171, Tryz.ntmps171
 go_wp2
 go_ret
 exact ⟨rfl, rfl⟩
theorem refLeap_no (y : Int) (w : World) (h : ¬ G.leap y) : Calls Tryz.prog 171 #[.int .i64 y] w fun e w' => e = .returned (.bool false) ∧ w = w' := by
 have k400 : (y.tmod 400 == 0) = false := by rw [tmod_zero]; unfold G.leap at h; simp; omega
 by_cases h4 : y % 4 = 0
 ·have k4 : (y.tmod 4 == 0) = true := by rw [tmod_zero]; simp [h4]
  have k100 : (y.tmod 100 != 0) = false := by rw [tmod_zero_ne]; unfold G.leap at h; simp; omega
  clear h h4
  go_enter Tryz.func171, Tryz.ntmps171
  go_wp2
  go_ret
  exact ⟨rfl, rfl⟩
 have k4 : (y.tmod 4 == 0) = false := by rw [tmod_zero]; simp [h4]
 clear h h4
 go_enter Tryz.func171, Tryz.ntmps171
 go_wp2
 go_ret
 exact ⟨rfl, rfl⟩
theorem refLong (y m : Int) (w : World) (h1 : 1 ≤ m) (h2 : m ≤ 12) : Calls Tryz.prog 167 #[.int .i64 y, .int .i64 m] w fun e w' => e = .returned (.int .i64 (G.long y m)) ∧ w = w' := by
 rcases G.twelve h1 h2 with rfl | rfl | rfl | rfl | rfl | rfl | rfl | rfl | rfl | rfl | rfl | rfl
 ·have k : Hid (G.long y 1 = 31) := rfl
  go_enter Tryz.func167, Tryz.ntmps167
  go_wp2
  go_ret
  exact ⟨ret_int k.u.symm, rfl⟩
 ·by_cases hl : G.leap y
  ·have k : Hid (G.long y 2 = 29) := by show G.long y 2 = 29; unfold G.long; simp [hl]
   go_enter Tryz.func167, Tryz.ntmps167
   go_wp2_with (go_at_call 171; refine (refLeap_yes _ _ hl).mono ?_; rintro e w' ⟨rfl, rfl⟩)
   go_ret
   exact ⟨ret_int k.u.symm, rfl⟩
  have k : Hid (G.long y 2 = 28) := by show G.long y 2 = 28; unfold G.long; simp [hl]
  go_enter Tryz.func167, Tryz.ntmps167
  go_wp2_with (go_at_call 171; refine (refLeap_no _ _ hl).mono ?_; rintro e w' ⟨rfl, rfl⟩)
  go_ret
  exact ⟨ret_int k.u.symm, rfl⟩
 ·have k : Hid (G.long y 3 = 31) := rfl
  go_enter Tryz.func167, Tryz.ntmps167
  go_wp2
  go_ret
  exact ⟨ret_int k.u.symm, rfl⟩
 ·have k : Hid (G.long y 4 = 30) := rfl
  go_enter Tryz.func167, Tryz.ntmps167
  go_wp2
  go_ret
  exact ⟨ret_int k.u.symm, rfl⟩
 ·have k : Hid (G.long y 5 = 31) := rfl
  go_enter Tryz.func167, Tryz.ntmps167
  go_wp2
  go_ret
  exact ⟨ret_int k.u.symm, rfl⟩
 ·have k : Hid (G.long y 6 = 30) := rfl
  go_enter Tryz.func167, Tryz.ntmps167
  go_wp2
  go_ret
  exact ⟨ret_int k.u.symm, rfl⟩
 ·have k : Hid (G.long y 7 = 31) := rfl
  go_enter Tryz.func167, Tryz.ntmps167
  go_wp2
  go_ret
  exact ⟨ret_int k.u.symm, rfl⟩
 ·have k : Hid (G.long y 8 = 31) := rfl
  go_enter Tryz.func167, Tryz.ntmps167
  go_wp2
  go_ret
  exact ⟨ret_int k.u.symm, rfl⟩
 ·have k : Hid (G.long y 9 = 30) := rfl
  go_enter Tryz.func167, Tryz.ntmps167
  go_wp2
  go_ret
  exact ⟨ret_int k.u.symm, rfl⟩
 ·have k : Hid (G.long y 10 = 31) := rfl
  go_enter Tryz.func167, Tryz.ntmps167
  go_wp2
  go_ret
  exact ⟨ret_int k.u.symm, rfl⟩
 ·have k : Hid (G.long y 11 = 30) := rfl
  go_enter Tryz.func167, Tryz.ntmps167
  go_wp2
  go_ret
  exact ⟨ret_int k.u.symm, rfl⟩
 have k : Hid (G.long y 12 = 31) := rfl
 go_enter Tryz.func167, Tryz.ntmps167
 go_wp2
 go_ret
 exact ⟨ret_int k.u.symm, rfl⟩
def yearsAt (y i v : Int) : Prop := -8000000 ≤ v ∧ v ≤ 8000000 ∧ ((i = 0 ∧ v = 365 * y) ∨ (i = 1 ∧ v = 365 * y + (y + 3) / 4) ∨ (i = 2 ∧ v = 365 * y + (y + 3) / 4 - (y + 99) / 100) ∨ (i = 3 ∧ v = G.years y))
theorem refYears (y : Int) (w : World) (y0 : -20000 ≤ y) (y1 : y ≤ 20000) : Calls Tryz.prog 166 #[.int .i64 y] w fun e w' => e = .returned (.int .i64 (G.years y)) ∧ Below w.heap.size w w' := by
 have hst : Hid (∀ v, v = 365 * y → yearsAt y 0 v) := fun v h => by unfold yearsAt; omega
 have hn0 : Hid (∀ v x c, yearsAt y 0 v → c = (y + 3) / 4 → x = v + c → yearsAt y 1 x) := fun v x c h => by unfold yearsAt at *; omega
 have hn1 : Hid (∀ v x c, yearsAt y 1 v → c = (y + 99) / 100 → x = v - c → yearsAt y 2 x) := fun v x c h => by unfold yearsAt at *; omega
 have hn2 : Hid (∀ v x c, yearsAt y 2 v → c = (y + 399) / 400 → x = v + c → yearsAt y 3 x) := fun v x c h => by unfold yearsAt at *; have : G.years y = 365 * y + (y + 3) / 4 - (y + 99) / 100 + (y + 399) / 400 := rfl; omega
 rcases Int.lt_or_le 0 y with hp | hp
 ·go_enter Tryz.func166, Tryz.ntmps166
  go_wp2_with fail
  go_loop [3, 13] (fun n i => ∃ v k : Int, 0 ≤ k ∧ k ≤ 3 ∧ -8000000 ≤ v ∧ v ≤ 8000000 ∧ Hid (yearsAt y k v) ∧ i = .int .i64 k ∧ n = .int .i64 v) (fun _ i => (3 - intOf i).toNat)
  case atStart => exact ⟨_, 0, by omega, by omega, by omega, by omega, hst.u _ rfl, rfl, rfl⟩
  obtain ⟨v, k, k0, k1, v0, v1, hv, rfl, rfl⟩ := hrel
  obtain rfl | rfl | rfl | rfl : k = 0 ∨ k = 1 ∨ k = 2 ∨ k = 3 := by omega
  ·go_wp2
   go_round
   case rel =>
    have hx := hn0.u v (v + ((y - 1) / 4 + 1)) ((y - 1) / 4 + 1) hv.u (by omega) rfl
    exact ⟨_, 1, by omega, by omega, hx.1, hx.2.1, hx, by go_num, by first | rfl | go_num⟩
   case measure => simp [intOf]
  ·go_wp2
   go_round
   case rel =>
    have hx := hn1.u v (v - ((y - 1) / 100 + 1)) ((y - 1) / 100 + 1) hv.u (by omega) rfl
    exact ⟨_, 2, by omega, by omega, hx.1, hx.2.1, hx, by go_num, by first | rfl | go_num⟩
   case measure => simp [intOf]
  ·go_wp2
   go_round
   case rel =>
    have hx := hn2.u v (v + ((y - 1) / 400 + 1)) ((y - 1) / 400 + 1) hv.u (by omega) rfl
    exact ⟨_, 3, by omega, by omega, hx.1, hx.2.1, hx, by go_num, by first | rfl | go_num⟩
   case measure => simp [intOf]
  go_wp2
  go_ret
  exact ⟨ret_int (by have := hv.u; unfold yearsAt at this; omega), (Below.refl _ _).alloc (Nat.le_refl _) _⟩
 obtain ⟨z, rfl⟩ : ∃ z, y = -z := ⟨-y, by omega⟩
 have z0 : 0 ≤ z := by omega
 have z1 : z ≤ 20000 := by omega
 clear y0 y1 hp
 go_enter Tryz.func166, Tryz.ntmps166
 go_wp2_with fail
 go_loop [3, 13] (fun n i => ∃ v k : Int, 0 ≤ k ∧ k ≤ 3 ∧ -8000000 ≤ v ∧ v ≤ 8000000 ∧ Hid (yearsAt (-z) k v) ∧ i = .int .i64 k ∧ n = .int .i64 v) (fun _ i => (3 - intOf i).toNat)
 case atStart => exact ⟨_, 0, by omega, by omega, by omega, by omega, hst.u _ (by omega), rfl, rfl⟩
 obtain ⟨v, k, k0, k1, v0, v1, hv, rfl, rfl⟩ := hrel
 obtain rfl | rfl | rfl | rfl : k = 0 ∨ k = 1 ∨ k = 2 ∨ k = 3 := by omega
 ·go_wp2
  go_round
  case rel =>
   have hx := hn0.u v (v + (-(z / 4))) (-(z / 4)) hv.u (by omega) rfl
   exact ⟨_, 1, by omega, by omega, hx.1, hx.2.1, hx, by go_num, by first | rfl | go_num⟩
  case measure => simp [intOf]
 ·go_wp2
  go_round
  case rel =>
   have hx := hn1.u v (v - (-(z / 100))) (-(z / 100)) hv.u (by omega) rfl
   exact ⟨_, 2, by omega, by omega, hx.1, hx.2.1, hx, by go_num, by first | rfl | go_num⟩
  case measure => simp [intOf]
 ·go_wp2
  go_round
  case rel =>
   have hx := hn2.u v (v + (-(z / 400))) (-(z / 400)) hv.u (by omega) rfl
   exact ⟨_, 3, by omega, by omega, hx.1, hx.2.1, hx, by go_num, by first | rfl | go_num⟩
  case measure => simp [intOf]
 go_wp2
 go_ret
 exact ⟨ret_int (by have := hv.u; unfold yearsAt at this; omega), (Below.refl _ _).alloc (Nat.le_refl _) _⟩
end Go.Proofs.YtidonhndeohdlaaGreat
