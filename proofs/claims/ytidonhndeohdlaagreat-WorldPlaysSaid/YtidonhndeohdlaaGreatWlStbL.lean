/- The contract of the reference's Settle. -/
import Derived.Test.YtidonhndeohdlaaGreatWl15
set_option linter.unusedVariables false
set_option linter.unusedSimpArgs false
set_option maxRecDepth 100000
set_option maxHeartbeats 12800000
namespace G
def laterB (t : Int) (m : Mark) : Bool := decide (t < m.1)
def minTo (t x : Int) (l : List Mark) : Int := minAll (l.filter (laterB t)) x
def maxTo (t x : Int) (l : List Mark) : Int := maxAll (l.filter (laterB t)) x
def upTo2 (t : Int) (l : List Mark) : Int := sumUp (l.filter (laterB t)) 0
def dnTo2 (t : Int) (l : List Mark) : Int := sumDown (l.filter (laterB t)) 0
theorem minTo_snoc {t x : Int} {l : List Mark} {k : Nat} {m : Mark} (h : l[k]? = some m) : minTo t x (l.take (k + 1)) = if t < m.1 then min (minTo t x (l.take k)) m.2 else minTo t x (l.take k) := by
 unfold minTo
 rw [take_of_get h, List.filter_append]
 by_cases c : t < m.1
 ·rw [if_pos c, List.filter_cons, if_pos (by unfold laterB; simpa using c), List.filter_nil]; unfold minAll; rw [List.foldl_append]; rfl
 rw [if_neg c, List.filter_cons, if_neg (by unfold laterB; simpa using c), List.filter_nil, List.append_nil]
theorem maxTo_snoc {t x : Int} {l : List Mark} {k : Nat} {m : Mark} (h : l[k]? = some m) : maxTo t x (l.take (k + 1)) = if t < m.1 then max (maxTo t x (l.take k)) m.2 else maxTo t x (l.take k) := by
 unfold maxTo
 rw [take_of_get h, List.filter_append]
 by_cases c : t < m.1
 ·rw [if_pos c, List.filter_cons, if_pos (by unfold laterB; simpa using c), List.filter_nil]; unfold maxAll; rw [List.foldl_append]; rfl
 rw [if_neg c, List.filter_cons, if_neg (by unfold laterB; simpa using c), List.filter_nil, List.append_nil]
theorem upTo2_snoc {t : Int} {l : List Mark} {k : Nat} {m : Mark} (h : l[k]? = some m) : upTo2 t (l.take (k + 1)) = if t < m.1 then upTo2 t (l.take k) + max m.2 0 else upTo2 t (l.take k) := by
 unfold upTo2
 rw [take_of_get h, List.filter_append]
 by_cases c : t < m.1
 ·rw [if_pos c, List.filter_cons, if_pos (by unfold laterB; simpa using c), List.filter_nil]; unfold sumUp; rw [List.foldl_append]; rfl
 rw [if_neg c, List.filter_cons, if_neg (by unfold laterB; simpa using c), List.filter_nil, List.append_nil]
theorem dnTo2_snoc {t : Int} {l : List Mark} {k : Nat} {m : Mark} (h : l[k]? = some m) : dnTo2 t (l.take (k + 1)) = if t < m.1 then dnTo2 t (l.take k) + max (-m.2) 0 else dnTo2 t (l.take k) := by
 unfold dnTo2
 rw [take_of_get h, List.filter_append]
 by_cases c : t < m.1
 ·rw [if_pos c, List.filter_cons, if_pos (by unfold laterB; simpa using c), List.filter_nil]; unfold sumDown; rw [List.foldl_append]; rfl
 rw [if_neg c, List.filter_cons, if_neg (by unfold laterB; simpa using c), List.filter_nil, List.append_nil]
theorem dn_shift : ∀ (l : List Mark) (x : Int), sumDown l x = x + sumDown l 0
 | [], x => by simp [sumDown]
 | a :: l, x => by
  have e : ∀ y, sumDown (a :: l) y = sumDown l (y + max (-a.2) 0) := fun y => rfl
  rw [e, e, dn_shift l (x + max (-a.2) 0), dn_shift l (0 + max (-a.2) 0)]; omega
theorem minTo_bd {t x : Int} {l : List Mark} (h : ∀ m ∈ l, 0 ≤ m.2 ∧ m.2 ≤ 50) (h0 : 0 ≤ x) (h1 : x ≤ 50) : 0 ≤ minTo t x l ∧ minTo t x l ≤ 50 ∧ minTo t x l ≤ x := by
 have := minAll_bd (l.filter (laterB t)) x h0 h1 (fun m hm => h m (List.mem_filter.1 hm).1)
 exact ⟨this.1, this.2, (minAll_le _ _).1⟩
theorem maxTo_bd {t x : Int} {l : List Mark} (h : ∀ m ∈ l, 0 ≤ m.2 ∧ m.2 ≤ 50) (h0 : 0 ≤ x) (h1 : x ≤ 50) : 0 ≤ maxTo t x l ∧ maxTo t x l ≤ 50 ∧ x ≤ maxTo t x l := by
 have := maxAll_bd (l.filter (laterB t)) x h0 h1 (fun m hm => h m (List.mem_filter.1 hm).1)
 exact ⟨this.1, this.2, (maxAll_ge _ _).1⟩
theorem upTo2_bd {t : Int} {l : List Mark} (h : ∀ m ∈ l, -50 ≤ m.2 ∧ m.2 ≤ 50) : 0 ≤ upTo2 t l ∧ upTo2 t l ≤ 50 * l.length := by
 have := sumUp_bd (l.filter (laterB t)) 0 (fun m hm => h m (List.mem_filter.1 hm).1)
 have h2 := List.length_filter_le (laterB t) l
 unfold upTo2; omega
theorem dnTo2_bd {t : Int} {l : List Mark} (h : ∀ m ∈ l, -50 ≤ m.2 ∧ m.2 ≤ 50) : 0 ≤ dnTo2 t l ∧ dnTo2 t l ≤ 50 * l.length := by
 have := sumDown_bd (l.filter (laterB t)) 0 (fun m hm => h m (List.mem_filter.1 hm).1)
 have h2 := List.length_filter_le (laterB t) l
 unfold dnTo2; omega
def calUp (s : Stb) (now have0 want : Int) : Int :=
 let w1 := minTo (now - s.up.win) want s.wanted
 let b := max (have0 - upTo2 (now - s.up.per) s.moved) 0
 max (if s.up.limited then min w1 (b + max s.up.pods (ceilc (b * s.up.pct) 100)) else w1) have0
def calDn (s : Stb) (now have0 want : Int) : Int :=
 let w1 := maxTo (now - s.down.win) want s.wanted
 let b := have0 + dnTo2 (now - s.down.per) s.moved
 min (if s.down.limited then max w1 (b - max s.down.pods (sharec b (s.down.pct * 10))) else w1) have0
theorem calUp_is {s : Stb} {j : Nat} (h : s.ok j) (now have0 want : Int) : moreN s now have0 want = calUp s now have0 want := by
 unfold moreN calUp baseUp minTo upTo2
 rw [behind_filter h.wsort, behind_filter h.msort]; rfl
theorem calDn_is {s : Stb} {j : Nat} (h : s.ok j) (now have0 want : Int) : fewerN s now have0 want = calDn s now have0 want := by
 unfold fewerN calDn baseDown maxTo dnTo2
 rw [behind_filter h.wsort, behind_filter h.msort, dn_shift, Int.mul_comm 10]; rfl
end G
namespace Go.Proofs.YtidonhndeohdlaaGreat
open Go.RowKit
theorem info_cmark : (Tryz.prog.info? 198).map (fun i => (i.zero, i.size, i.bytes)) = some (some (.agg #[.int .i64 0, .int .i64 0]), 2, 16) := by kernel_rfl
theorem StbAt.want {T TM : TypeId} {S : Nat → Prop} {w : World} {g : Nat} {s : G.Stb} {vw vm : Value} (h : StbAt T TM S w g s vw vm) {k : Nat} {m : G.Mark} (hk : s.wanted[k]? = some m) :
  ∃ b cap, vw = .slice (some ⟨b, 0, none⟩) s.wanted.length cap ∧ b < w.heap.size ∧ w.cell? ⟨b, k * 2, none⟩ = some (.int .i64 m.1) ∧ w.cell? ⟨b, k * 2 + 1, none⟩ = some (.int .i64 m.2) := by
 obtain ⟨b, cap, e, hS, h1, h2, h3⟩ := h.wan.form (by have := G.get_lt hk; omega)
 exact ⟨b, cap, e, h3.inside, h3.cell (G.flat_get (j := 0) G.encM_length hk rfl), h3.cell (G.flat_get (j := 1) G.encM_length hk rfl)⟩
theorem StbAt.move {T TM : TypeId} {S : Nat → Prop} {w : World} {g : Nat} {s : G.Stb} {vw vm : Value} (h : StbAt T TM S w g s vw vm) {k : Nat} {m : G.Mark} (hk : s.moved[k]? = some m) :
  ∃ b cap, vm = .slice (some ⟨b, 0, none⟩) s.moved.length cap ∧ b < w.heap.size ∧ w.cell? ⟨b, k * 2, none⟩ = some (.int .i64 m.1) ∧ w.cell? ⟨b, k * 2 + 1, none⟩ = some (.int .i64 m.2) := by
 obtain ⟨b, cap, e, hS, h1, h2, h3⟩ := h.mov.form (by have := G.get_lt hk; omega)
 exact ⟨b, cap, e, h3.inside, h3.cell (G.flat_get (j := 0) G.encM_length hk rfl), h3.cell (G.flat_get (j := 1) G.encM_length hk rfl)⟩
theorem calSettle (S : Nat → Prop) (g : Nat) (s : G.Stb) (vw vm : Value) (now have0 want : Int) (w : World) (j : Nat) (h : StbAt 166 198 S w g s vw vm) (hs : s.ok j) (hj : j ≤ 90000) :
  Calls Tryz.prog 121 #[.pointer (some ⟨g, 0, none⟩), .int .i64 now, .int .i64 have0, .int .i64 want] w (SettlePost 166 198 S w g s now have0 want) := by
 have c8 : w.cell? ⟨g, 8, none⟩ = some (.int .i64 s.last) := h.head.here rfl
 cases hok : G.settleOk s now have0 want
 ·have HF := J (settle_no h hok)
  unfold G.settleOk at hok
  clear h hs
  by_cases a1 : now < s.last ∨ 1099511627776 < now
  ·clear hok
   go_enter Tryz.func121, Tryz.ntmps121
   go_wp2_with fail
   refine (refIn_no _ _ _ _ a1).mono ?_
   rintro e wz ⟨rfl, rfl⟩
   go_wp2_with fail
   go_ret2
   exact HF.u
  by_cases a2 : have0 < 0 ∨ 50 < have0
  ·clear hok
   go_enter Tryz.func121, Tryz.ntmps121
   go_wp2_with fail
   refine (refIn_yes _ _ _ _ (by omega) (by omega)).mono ?_
   rintro e wz ⟨rfl, rfl⟩
   go_wp2_with fail
   refine (refIn_no _ _ _ _ a2).mono ?_
   rintro e wz ⟨rfl, rfl⟩
   go_wp2_with fail
   go_ret2
   exact HF.u
  have a3 : want < 0 ∨ 50 < want := by
   simp only [Bool.and_eq_false_iff, decide_eq_false_iff_not] at hok; omega
  clear hok
  go_enter Tryz.func121, Tryz.ntmps121
  go_wp2_with fail
  refine (refIn_yes _ _ _ _ (by omega) (by omega)).mono ?_
  rintro e wz ⟨rfl, rfl⟩
  go_wp2_with fail
  refine (refIn_yes _ _ _ _ (by omega) (by omega)).mono ?_
  rintro e wz ⟨rfl, rfl⟩
  go_wp2_with fail
  refine (refIn_no _ _ _ _ a3).mono ?_
  rintro e wz ⟨rfl, rfl⟩
  go_wp2_with fail
  go_ret2
  exact HF.u
 have HOK := J hok
 have hb := hok
 unfold G.settleOk at hb
 simp only [Bool.and_eq_true, decide_eq_true_eq] at hb
 obtain ⟨⟨⟨a1, a2⟩, a3, a4⟩, a5, a6⟩ := hb
 have c9 : w.cell? ⟨g, 9, none⟩ = some vw := h.head.here rfl
 have f8 := h.head.soft 8
 have hgw : g < w.heap.size := h.head.inside
 have HH := J h; have HS := J hs
 have HT := J (h.tick (by decide) now)
 obtain ⟨i0, hi, hz0, hz1, hz2⟩ := info_parts info_cmark
 have hwl := hs.wlen
 have hm3 := J (show s.wanted.length + 1 ≤ maxLen by simp only [maxLen]; omega)
 have hm4 := J (show (s.wanted.length + 1) * 16 ≤ 140737488355328 by omega)
 have hl0 := hs.last0
 clear h hs hok
 go_enter Tryz.func121, Tryz.ntmps121
 go_wp2_with fail
 refine (refIn_yes _ _ _ _ a1 a2).mono ?_
 rintro e wz ⟨rfl, rfl⟩
 go_wp2_with fail
 refine (refIn_yes _ _ _ _ a3 a4).mono ?_
 rintro e wz ⟨rfl, rfl⟩
 go_wp2_with fail
 refine (refIn_yes _ _ _ _ a5 a6).mono ?_
 rintro e wz ⟨rfl, rfl⟩
 go_wp2_with (at_builtin; refine wpList_append_lies _ (by rfl) (.tmp 45) (.tmp 49) 164 (by rfl) 0 198 i0 (.agg #[.int .i64 0, .int .i64 0]) 2 16 Tryz.underlying164 hi hz0 hz1 hz2 rfl (by decide) vw _ _ rfl (HT.u.alloc _).wan.owns ⟨w.heap.size, 0, none⟩ 1 1 [.int .i64 now, .int .i64 want] rfl rfl (new_cells_in (G.size_put w _ _)) (by simp [Value.oneCell']) (by decide) hm3.u hm4.u (Nat.zero_le _) _ rfl ?_)
 intro b cap w1 hown hg ho hlt
 obtain ⟨⟨d9, f9⟩, hA, hC⟩ := seen_at HH.u (by decide) hown hg ho hlt
 have HA := J hA; have HC := J hC
 clear hown hg ho hlt hA hC c9 f8 c8
 have hokj := J (Stb.ok_seen HS.u HOK.u)
 obtain ⟨W1, hW1⟩ : ∃ W, Hid (w1.setCell ⟨g, 9, none⟩ (.slice (some ⟨b, 0, none⟩) (s.wanted.length + 1) cap) = W) := ⟨_, J rfl⟩
 rw [hW1.u] at HA HC
 have HLast := J (show (s.seen now want).wanted[(s.seen now want).wanted.length - 1]? = some (now, want) by show (s.wanted ++ [(now, want)])[(s.wanted ++ [(now, want)]).length - 1]? = _; simp)
 by_cases heq : want = have0
 ·subst heq
  clear a1
  have hgw2 : g < W1.heap.size := HA.u.head.inside
  have e4 := HA.u.head.here (i := 4) rfl; have e5 := HA.u.head.here (i := 5) rfl; have e6 := HA.u.head.here (i := 6) rfl; have e7 := HA.u.head.here (i := 7) rfl
  have HF := J (settle_end (n := want) HOK.u (by unfold G.settleN0; rw [if_neg (by omega), if_neg (by omega)]) (below_at HA.u HC.u ((Below.refl W1.heap.size W1).alloc (Nat.le_refl _) (.cells #[.int .i64 s.down.win, .int .i64 s.down.pods, .int .i64 s.down.pct, .int .i64 s.down.per] 23))).2 (by rw [if_pos rfl]; exact (below_at HA.u HC.u ((Below.refl W1.heap.size W1).alloc (Nat.le_refl _) (.cells #[.int .i64 s.down.win, .int .i64 s.down.pods, .int .i64 s.down.pct, .int .i64 s.down.per] 23))).1))
  go_upto_region 7 with fail
  clear d9 f9
  rw [hW1.u]
  have e4' : W1.cell? ⟨g, 4, none⟩ = some (.int .i64 s.down.win) := e4
  have e5' : W1.cell? ⟨g, 5, none⟩ = some (.int .i64 s.down.pods) := e5
  have e6' : W1.cell? ⟨g, 6, none⟩ = some (.int .i64 s.down.pct) := e6
  have e7' : W1.cell? ⟨g, 7, none⟩ = some (.int .i64 s.down.per) := e7
  clear e4 e5 e6 e7
  go_wp2_with fail
  go_ret2
  exact HF.u
 by_cases hup : have0 < want
 ·have hne0 : (want == have0) = false := by simp [heq]
  clear heq
  as_aux_lemma =>
  have hgw2 : g < W1.heap.size := HA.u.head.inside
  go_upto_region 7 with fail
  clear d9 f9
  rw [hW1.u]
  have e4 : W1.cell? ⟨g, 4, none⟩ = some (.int .i64 s.down.win) := HA.u.head.here (i := 4) rfl
  have e5 : W1.cell? ⟨g, 5, none⟩ = some (.int .i64 s.down.pods) := HA.u.head.here (i := 5) rfl
  have e6 : W1.cell? ⟨g, 6, none⟩ = some (.int .i64 s.down.pct) := HA.u.head.here (i := 6) rfl
  have e7 : W1.cell? ⟨g, 7, none⟩ = some (.int .i64 s.down.per) := HA.u.head.here (i := 7) rfl
  have e0 : W1.cell? ⟨g, 0, none⟩ = some (.int .i64 s.up.win) := HA.u.head.here (i := 0) rfl
  have e1 : W1.cell? ⟨g, 1, none⟩ = some (.int .i64 s.up.pods) := HA.u.head.here (i := 1) rfl
  have e2 : W1.cell? ⟨g, 2, none⟩ = some (.int .i64 s.up.pct) := HA.u.head.here (i := 2) rfl
  have e3 : W1.cell? ⟨g, 3, none⟩ = some (.int .i64 s.up.per) := HA.u.head.here (i := 3) rfl
  obtain ⟨W2, hW2⟩ : ∃ W, Hid (W1.alloc (.cells #[.int .i64 s.up.win, .int .i64 s.up.pods, .int .i64 s.up.pct, .int .i64 s.up.per] 23) = W) := ⟨_, J rfl⟩
  have HP1 := J (show G.At (W1.alloc (.cells #[.int .i64 s.up.win, .int .i64 s.up.pods, .int .i64 s.up.pct, .int .i64 s.up.per] 23)) W1.heap.size 23 #[.int .i64 s.up.win, .int .i64 s.up.pods, .int .i64 s.up.pct, .int .i64 s.up.per] from G.At.made W1 23 #[.int .i64 s.up.win, .int .i64 s.up.pods, .int .i64 s.up.pct, .int .i64 s.up.per])
  have HB1 := J (show Below W1.heap.size W1 (W1.alloc (.cells #[.int .i64 s.up.win, .int .i64 s.up.pods, .int .i64 s.up.pct, .int .i64 s.up.per] 23)) from (Below.refl W1.heap.size W1).alloc (Nat.le_refl _) (.cells #[.int .i64 s.up.win, .int .i64 s.up.pods, .int .i64 s.up.pct, .int .i64 s.up.per] 23))
  rw [hW2.u] at HP1 HB1
  go_upto_region 12 with fail
  rw [hW2.u]
  clear hW2 e4 e5 e6 e7 e0 e1 e2 e3
  have HA2 := J (below_at HA.u HC.u HB1.u)
  have hpw := HP1.u.inside
  generalize W1.heap.size = P at HP1 hpw ⊢
  have HWb := J (show ∀ m ∈ (s.seen now want).wanted, 0 ≤ m.2 ∧ m.2 ≤ 50 from fun m hm => (hokj.u.wan m hm).1)
  have HMb := J (show ∀ m ∈ (s.seen now want).moved, -50 ≤ m.2 ∧ m.2 ≤ 50 from fun m hm => (hokj.u.mov m hm).1)
  have HLens := J (show (s.seen now want).wanted.length ≤ 100000 ∧ (s.seen now want).moved.length ≤ 100000 ∧ 0 < (s.seen now want).wanted.length from ⟨by have := hokj.u.wlen; omega, by have := hokj.u.mlen; omega, by show 0 < (s.wanted ++ [_]).length; simp⟩)
  have HPk := J (show s.up.ok from HS.u.up)
  clear HA HC HB1 hgw2
  go_wp2_with fail
  go_loopw [10, 13] (fun sn i wr => ∃ k : Nat, k ≤ (s.seen now want).wanted.length ∧ i = .int .i64 k ∧ sn = .int .i64 (G.minTo (now - s.up.win) want ((s.seen now want).wanted.take k)) ∧ Hid (Below W2.heap.size W2 wr)) (fun _ i _ => (s.seen now want).wanted.length - (intOf i).toNat)
  case atStart => exact ⟨0, by omega, rfl, rfl, J (Below.refl _ _)⟩
  obtain ⟨k, hk, rfl, rfl, HB⟩ := hrel
  have H3 := J (below_at HA2.u.1 HA2.u.2 HB.u)
  have HP3 := J (HP1.u.below HB.u hpw)
  obtain ⟨hl1, hl2, hl3⟩ := HLens.u
  have hgw3 : g < wr.heap.size := H3.u.1.head.inside
  have hpw3 : P < wr.heap.size := HP3.u.inside
  have nb := G.minTo_bd (t := now - s.up.win) (l := (s.seen now want).wanted.take k) (fun m hm => HWb.u m (List.mem_of_mem_take hm)) a5 a6
  by_cases hlt : k < (s.seen now want).wanted.length
  ·as_aux_lemma =>
   obtain ⟨m, hm⟩ := G.get_some (s.seen now want).wanted hlt
   obtain ⟨b9, cap9, e, hbl, c0, c1⟩ := H3.u.1.want hm
   have e9 : wr.cell? ⟨g, 9, none⟩ = some (.slice (some ⟨b9, 0, none⟩) (s.seen now want).wanted.length cap9) := by rw [← e]; exact H3.u.1.head.here (i := 9) rfl
   have k0 : (0 : Int) ≤ (k : Int) := by omega
   have k1 : (k : Int) < ((s.seen now want).wanted.length : Int) := by omega
   have HSn := J (G.minTo_snoc (t := now - s.up.win) (x := want) hm)
   have HBn := J (HB.u.alloc HB.u.size (.cells #[.int .i64 m.1, .int .i64 m.2] 198))
   have p0 := (HP3.u.alloc (.cells #[.int .i64 m.1, .int .i64 m.2] 198)).here (i := 0) rfl
   have e9' : (wr.alloc (.cells #[.int .i64 m.1, .int .i64 m.2] 198)).cell? ⟨g, 9, none⟩ = some (.slice (some ⟨b9, 0, none⟩) (s.seen now want).wanted.length cap9) := by rw [← e]; exact (H3.u.1.alloc (.cells #[.int .i64 m.1, .int .i64 m.2] 198)).head.here (i := 9) rfl
   clear e
   have mb := HWb.u m (List.mem_of_getElem? hm)
   obtain ⟨mb0, mb1⟩ := mb
   have w0 := HPk.u.1.1; have w1' := HPk.u.1.2
   have hw : IntKind.i64.wrap (now - s.up.win) = now - s.up.win := IntWalk.i64_in _ (by omega)
   have hwl : IntKind.i64.wrap (((s.seen now want).wanted.length : Int) - 1) = ((s.seen now want).wanted.length : Int) - 1 := IntWalk.i64_in _ (by omega)
   generalize G.minTo (now - s.up.win) want ((s.seen now want).wanted.take k) = n0 at nb HSn ⊢
   obtain ⟨nb0, nb1, nb2⟩ := nb
   by_cases g1 : now - s.up.win < m.1
   ·have HN1 := J (HSn.u.trans (if_pos g1))
    clear hm HSn
    by_cases q : m.2 < n0
    ·have HN2 := J (HN1.u.trans (show min n0 m.2 = m.2 by omega))
     go_wp2_with fail
     go_roundw
     case rel => first | exact ⟨k + 1, by omega, by go_num, by rw [HN2.u], HBn⟩ | exact ⟨k + 1, by omega, by omega, by rw [HN2.u]⟩
     case measure => simp [intOf]; omega
    have q' : n0 ≤ m.2 := by omega
    have HN2 := J (HN1.u.trans (show min n0 m.2 = n0 by omega))
    clear q
    go_wp2_with fail
    go_roundw
    case rel => first | exact ⟨k + 1, by omega, by go_num, by rw [HN2.u], HBn⟩ | exact ⟨k + 1, by omega, by omega, by rw [HN2.u]⟩
    case measure => simp [intOf]; omega
   have g1' : m.1 ≤ now - s.up.win := by omega
   have HN1 := J (HSn.u.trans (if_neg g1))
   clear HSn g1
   cases g2 : (m.1 == now)
   ·clear hm
    go_wp2_with fail
    go_roundw
    case rel => first | exact ⟨k + 1, by omega, by go_num, by rw [HN1.u], HBn⟩ | exact ⟨k + 1, by omega, by omega, by rw [HN1.u]⟩
    case measure => simp [intOf]; omega
   cases g3 : ((k : Int) == ((s.seen now want).wanted.length : Int) - 1)
   ·clear hm
    go_wp2_with fail
    go_roundw
    case rel => first | exact ⟨k + 1, by omega, by go_num, by rw [HN1.u], HBn⟩ | exact ⟨k + 1, by omega, by omega, by rw [HN1.u]⟩
    case measure => simp [intOf]; omega
   have hke : k = (s.seen now want).wanted.length - 1 := by have := g3; simp only [beq_iff_eq] at this; omega
   have hmw : m = (now, want) := by rw [hke, HLast.u] at hm; exact (Option.some.inj hm).symm
   have q' : n0 ≤ m.2 := by rw [hmw]; exact nb2
   clear hm hmw hke
   go_wp2_with fail
   go_roundw
   case rel => first | exact ⟨k + 1, by omega, by go_num, by rw [HN1.u], HBn⟩ | exact ⟨k + 1, by omega, by omega, by rw [HN1.u]⟩
   case measure => simp [intOf]; omega
  as_aux_lemma =>
  have hke : k = (s.seen now want).wanted.length := by omega
  subst hke
  rw [List.take_length] at nb ⊢
  have p0 := HP3.u.here (i := 0) rfl; have p1 := HP3.u.here (i := 1) rfl; have p2 := HP3.u.here (i := 2) rfl; have p3 := HP3.u.here (i := 3) rfl
  obtain ⟨⟨w0, w1'⟩, ⟨u0, u1⟩, ⟨v0, v1⟩, ⟨x0, x1⟩⟩ := HPk.u
  have hnb := settleN0_bd (s.seen now want) now have0 want (fun m hm => (hokj.u.wan m hm).1) a3 a4 a5 a6
  have HMod := J (show G.settleN0 (s.seen now want) now have0 want = G.calUp (s.seen now want) now have0 want by unfold G.settleN0; rw [if_pos hup]; exact G.calUp_is hokj.u now have0 want)
  have HNb := J hnb
  obtain ⟨n0, hn0⟩ : ∃ n0, Hid (G.minTo (now - s.up.win) want (s.seen now want).wanted = n0) := ⟨_, J rfl⟩
  rw [hn0.u] at nb ⊢
  obtain ⟨nb0, nb1, nb2⟩ := nb
  clear hnb hlt hpw
  have e9 : wr.cell? ⟨g, 9, none⟩ = some (.slice (some ⟨b, 0, none⟩) (s.seen now want).wanted.length cap) := by rw [show (s.seen now want).wanted.length = s.wanted.length + 1 by show (s.wanted ++ [_]).length = _; simp]; exact H3.u.1.head.here (i := 9) rfl
  go_upto_region 19 with fail
  clear e9
  go_cut [140] (fun s1 wx => s1 = .bool s.up.limited ∧ wr = wx)
  case first =>
   as_aux_lemma =>
   by_cases z1 : s.up.per = 0
   ·rw [z1] at p3
    have HL := J (show s.up.limited = false by unfold G.Pace.limited; simp [z1])
    go_wp2_with fail
    go_meet
    exact ⟨by rw [HL.u], rfl⟩
   have z1' : (s.up.per == 0) = false := by simp [z1]
   have z1'' : (s.up.per != 0) = true := by simp [z1]
   by_cases z2 : s.up.pods = 0
   ·rw [z2] at p1
    by_cases z3 : s.up.pct = 0
    ·rw [z3] at p2
     have HL := J (show s.up.limited = false by unfold G.Pace.limited; simp [z2, z3])
     go_wp2_with fail
     go_meet
     exact ⟨by rw [HL.u], rfl⟩
    have z3' : (s.up.pct != 0) = true := by simp [z3]
    have HL := J (show s.up.limited = true by unfold G.Pace.limited; simp; omega)
    go_wp2_with fail
    go_meet
    exact ⟨by rw [HL.u], rfl⟩
   have z2' : (s.up.pods != 0) = true := by simp [z2]
   have HL := J (show s.up.limited = true by unfold G.Pace.limited; simp; omega)
   go_wp2_with fail
   go_meet
   exact ⟨by rw [HL.u], rfl⟩
  case rest =>
  obtain ⟨rfl, rfl⟩ := hcut
  cases hlim : s.up.limited
  ·have HN := J (show max n0 have0 = G.settleN0 (s.seen now want) now have0 want by rw [HMod.u]; unfold G.calUp; simp only [show (s.seen now want).up.limited = false from hlim, Bool.false_eq_true, if_false]; rw [show (s.seen now want).up.win = s.up.win from rfl, hn0.u])
   rw [← HN.u] at HNb
   clear p0 p1 p2 p3 hlim HMod
   generalize n0 = n1 at HN HNb hn0 nb0 nb1 nb2 ⊢
   as_aux_lemma =>
   go_upto_region 36 with fail
   go_cut [10] (fun s10 wx => s10 = .int .i64 (max n1 have0) ∧ wr = wx)
   case first =>
    as_aux_lemma =>
    by_cases hc : n1 < have0
    ·go_wp2_with fail
     go_meet
     exact ⟨by rw [show max n1 have0 = have0 by omega], rfl⟩
    have hc' : have0 ≤ n1 := by omega
    go_wp2_with fail
    go_meet
    exact ⟨by rw [show max n1 have0 = n1 by omega], rfl⟩
   case rest =>
   obtain ⟨rfl, rfl⟩ := hcut
   generalize max n1 have0 = N at HN HNb ⊢
   obtain ⟨b0, b1⟩ := HNb.u
   clear HNb
   by_cases hne : N = have0
   ·have HF := J (settle_end (n := N) HOK.u HN.u H3.u.2 (by rw [if_pos hne]; exact H3.u.1))
    subst hne
    clear HP3 H3
    go_wp2_with fail
    go_ret2
    exact HF.u
   as_aux_lemma =>
   have hbq : (N == have0) = false := by simp [hne]
   have hbn : (N != have0) = true := by simp [hne]
   have e10 : wr.cell? ⟨g, 10, none⟩ = some vm := H3.u.1.head.here rfl
   have hgw3 : g < wr.heap.size := H3.u.1.head.inside
   have hml := (Stb.ok_seen HS.u HOK.u).mlen
   have hm5 := J (show (s.seen now want).moved.length + 1 ≤ maxLen by simp only [maxLen]; omega)
   have hm6 := J (show ((s.seen now want).moved.length + 1) * 16 ≤ 140737488355328 by omega)
   have HNE := J hne
   have hww : IntKind.i64.wrap (N - have0) = N - have0 := IntWalk.i64_in _ (by omega)
   clear hne hml HP3
   go_wp2_with (at_builtin; refine wpList_append_lies _ (by rfl) (.tmp 231) (.tmp 237) 164 (by rfl) 0 198 i0 (.agg #[.int .i64 0, .int .i64 0]) 2 16 Tryz.underlying164 hi hz0 hz1 hz2 rfl (by decide) vm _ _ rfl (H3.u.1.alloc _).mov.owns ⟨wr.heap.size, 0, none⟩ 1 1 [.int .i64 now, .int .i64 (N - have0)] rfl rfl (new_cells_in rfl) (by simp [Value.oneCell']) (by decide) hm5.u hm6.u (Nat.zero_le _) _ rfl ?_)
   intro b5 cap5 w5 hown5 hg5 ho5 hlt5
   obtain ⟨⟨d10, f10⟩, hA5, hC5⟩ := went_at (n := N - have0) H3.u.1 H3.u.2 (by decide) hown5 hg5 ho5 hlt5
   have HF := J (settle_end (n := N) HOK.u HN.u hC5 (by rw [if_neg HNE.u]; exact hA5))
   clear hown5 hg5 ho5 hlt5 hA5 hC5 e10
   go_wp2_with fail
   go_ret2
   exact HF.u
  as_aux_lemma =>
  obtain ⟨wo, rfl⟩ : ∃ wo : World, wo = wr := ⟨_, rfl⟩
  clear p0 p1 p2 p3
  go_wp2_with fail
  go_loopw [15, 16] (fun sm i wr => ∃ k : Nat, k ≤ (s.seen now want).moved.length ∧ i = .int .i64 k ∧ sm = .int .i64 (G.upTo2 (now - s.up.per) ((s.seen now want).moved.take k)) ∧ Hid (Below wo.heap.size wo wr)) (fun _ i _ => (s.seen now want).moved.length - (intOf i).toNat)
  case atStart => exact ⟨0, by omega, rfl, rfl, J (Below.refl _ _)⟩
  obtain ⟨k, hk, rfl, rfl, HB2⟩ := hrel
  have H4 := J (below_at H3.u.1 H3.u.2 HB2.u)
  have HP4 := J (HP3.u.below HB2.u HP3.u.inside)
  have hgw4 : g < wr.heap.size := H4.u.1.head.inside
  have hpw4 : P < wr.heap.size := HP4.u.inside
  have mb := G.upTo2_bd (t := now - s.up.per) (l := (s.seen now want).moved.take k) (fun m hm => HMb.u m (List.mem_of_mem_take hm))
  have ml : (((s.seen now want).moved.take k).length : Int) ≤ 100000 := by rw [List.length_take]; omega
  by_cases hlt : k < (s.seen now want).moved.length
  ·as_aux_lemma =>
   obtain ⟨m, hm⟩ := G.get_some (s.seen now want).moved hlt
   obtain ⟨b9, cap9, e, hbl, c0, c1⟩ := H4.u.1.move hm
   have e10 : wr.cell? ⟨g, 10, none⟩ = some (.slice (some ⟨b9, 0, none⟩) (s.seen now want).moved.length cap9) := by rw [← e]; exact H4.u.1.head.here (i := 10) rfl
   have k0 : (0 : Int) ≤ (k : Int) := by omega
   have k1 : (k : Int) < ((s.seen now want).moved.length : Int) := by omega
   have HSn := J (G.upTo2_snoc (t := now - s.up.per) hm)
   have HBn := J (HB2.u.alloc HB2.u.size (.cells #[.int .i64 m.1, .int .i64 m.2] 198))
   have p3 := (HP4.u.alloc (.cells #[.int .i64 m.1, .int .i64 m.2] 198)).here (i := 3) rfl
   have hmb := HMb.u m (List.mem_of_getElem? hm)
   have hw : IntKind.i64.wrap (now - s.up.per) = now - s.up.per := IntWalk.i64_in _ (by omega)
   generalize G.upTo2 (now - s.up.per) ((s.seen now want).moved.take k) = M0 at mb HSn ⊢
   obtain ⟨mb0, mb1⟩ := mb
   have hws : IntKind.i64.wrap (M0 + m.2) = M0 + m.2 := IntWalk.i64_in _ (by omega)
   clear e hm
   by_cases g1 : now - s.up.per < m.1
   ·have HN1 := J (HSn.u.trans (if_pos g1))
    clear HSn
    by_cases q : 0 < m.2
    ·have HN2 := J (HN1.u.trans (show M0 + max m.2 0 = M0 + m.2 by omega))
     go_wp2_with fail
     go_roundw
     case rel => first | exact ⟨k + 1, by omega, by go_num, by rw [HN2.u], HBn⟩ | exact ⟨k + 1, by omega, by omega, by rw [HN2.u]⟩
     case measure => simp [intOf]; omega
    have q' : m.2 ≤ 0 := by omega
    have HN2 := J (HN1.u.trans (show M0 + max m.2 0 = M0 by omega))
    clear q
    go_wp2_with fail
    go_roundw
    case rel => first | exact ⟨k + 1, by omega, by go_num, by rw [HN2.u], HBn⟩ | exact ⟨k + 1, by omega, by omega, by rw [HN2.u]⟩
    case measure => simp [intOf]; omega
   have g1' : m.1 ≤ now - s.up.per := by omega
   have HN1 := J (HSn.u.trans (if_neg g1))
   clear HSn g1
   go_wp2_with fail
   go_roundw
   case rel => first | exact ⟨k + 1, by omega, by go_num, by rw [HN1.u], HBn⟩ | exact ⟨k + 1, by omega, by omega, by rw [HN1.u]⟩
   case measure => simp [intOf]; omega
  as_aux_lemma =>
  have hke : k = (s.seen now want).moved.length := by omega
  subst hke
  rw [List.take_length] at mb ml ⊢
  obtain ⟨Am, capm, hvm, _, _, _⟩ := H4.u.1.mov.slice
  have e10 : wr.cell? ⟨g, 10, none⟩ = some (.slice Am (s.seen now want).moved.length capm) := by rw [← hvm]; exact H4.u.1.head.here (i := 10) rfl
  obtain ⟨M0, hM0⟩ : ∃ M0, Hid (G.upTo2 (now - s.up.per) (s.seen now want).moved = M0) := ⟨_, J rfl⟩
  rw [hM0.u] at mb ⊢
  obtain ⟨mb0, mb1⟩ := mb
  have mb2 : M0 ≤ 5000000 := by omega
  clear hvm hlt ml mb1
  have hwb : IntKind.i64.wrap (have0 - M0) = have0 - M0 := IntWalk.i64_in _ (by omega)
  go_upto_region 31 with fail
  clear e10
  go_cut [18] (fun s18 wx => s18 = .int .i64 (max (have0 - M0) 0) ∧ wr = wx)
  case first =>
   as_aux_lemma =>
   by_cases hc : have0 - M0 < 0
   ·go_wp2_with fail
    go_meet
    exact ⟨by rw [show max (have0 - M0) 0 = 0 by omega], rfl⟩
   have hc' : 0 ≤ have0 - M0 := by omega
   go_wp2_with fail
   go_meet
   exact ⟨by rw [show max (have0 - M0) 0 = have0 - M0 by omega], rfl⟩
  case rest =>
  obtain ⟨rfl, rfl⟩ := hcut
  obtain ⟨B, hB, B0, B1⟩ : ∃ B, Hid (max (have0 - M0) 0 = B) ∧ 0 ≤ B ∧ B ≤ 50 := ⟨_, J rfl, by omega, by omega⟩
  rw [hB.u]
  obtain ⟨q0, q1⟩ := G.mul_bd B0 B1 v0 v1
  have q2 : B * s.up.pct ≤ 5000000 := by omega
  have hwm : IntKind.i64.wrap (B * s.up.pct) = B * s.up.pct := IntWalk.i64_in _ (by omega)
  obtain ⟨z0, z1⟩ := G.ceilc_bd (B * s.up.pct)
  obtain ⟨C, hC⟩ : ∃ C, Hid (G.ceilc (B * s.up.pct) 100 = C) := ⟨_, J rfl⟩
  rw [hC.u] at z0 z1
  obtain ⟨mx, hmx⟩ : ∃ mx, Hid (max s.up.pods C = mx) := ⟨_, J rfl⟩
  have mx0 : 0 ≤ mx := by have := hmx.u; omega
  have mx1 : mx ≤ 1000000000000000 := by have := hmx.u; omega
  have E1 : (if s.up.pods < C then C else s.up.pods) = mx := by have := hmx.u; split <;> omega
  have hwa : IntKind.i64.wrap (B + mx) = B + mx := IntWalk.i64_in _ (by omega)
  obtain ⟨n1, hr⟩ : ∃ r, Hid (min n0 (B + mx) = r) := ⟨_, J rfl⟩
  have E2 : (if B + mx < n0 then B + mx else n0) = n1 := by have := hr.u; split <;> omega
  have HN := J (show max n1 have0 = G.settleN0 (s.seen now want) now have0 want by
   rw [HMod.u]; unfold G.calUp
   simp only [show (s.seen now want).up.limited = true from hlim, if_true]
   show _ = max (min (G.minTo (now - s.up.win) want (s.seen now want).wanted) (max (have0 - G.upTo2 (now - s.up.per) (s.seen now want).moved) 0 + max s.up.pods (G.ceilc (max (have0 - G.upTo2 (now - s.up.per) (s.seen now want).moved) 0 * s.up.pct) 100))) have0
   rw [hn0.u, hM0.u, hB.u, hC.u, hmx.u, hr.u])
  have y1 := HP4.u.drew.here (i := 1) rfl; have y2 := HP4.u.drew.here (i := 2) rfl
  clear q1 hwb
  go_wp2_with fail
  go_region_held3 (fun w' => w'.cell? ⟨P, 1, none⟩ = some (.int .i64 s.up.pods) ∧ w'.cell? ⟨P, 2, none⟩ = some (.int .i64 s.up.pct)) (first | exact ⟨y1, y2⟩ | go_keep) (first | (go_at_call 143; refine (refCeil _ _ _ (by decide)).mono ?_; rintro e w' ⟨rfl, rfl⟩; rw [hC.u]) | (go_simp; (try simp only [E1, E2])))
  all_goals
   have H5 := J (below_at H4.u.1 H4.u.2 (Below.refl wr.heap.size wr).drew)
   rw [← HN.u] at HNb
   clear y1 y2 hwm hwa E1 E2 z0 z1 mx0 mx1 hgw4 hpw4 H3 H4 HP3 HP4 HB2 B0 B1 mb0 mb2 HMod hr hmx hC hB hn0 hM0
   generalize wr.drew = wd at H5 ⊢
   as_aux_lemma =>
   go_upto_region 36 with fail
   go_cut [10] (fun s10 wx => s10 = .int .i64 (max n1 have0) ∧ wd = wx)
   case first =>
    as_aux_lemma =>
    by_cases hc : n1 < have0
    ·go_wp2_with fail
     go_meet
     exact ⟨by rw [show max n1 have0 = have0 by omega], rfl⟩
    have hc' : have0 ≤ n1 := by omega
    go_wp2_with fail
    go_meet
    exact ⟨by rw [show max n1 have0 = n1 by omega], rfl⟩
   case rest =>
   obtain ⟨rfl, rfl⟩ := hcut
   generalize max n1 have0 = N at HN HNb ⊢
   obtain ⟨b0, b1⟩ := HNb.u
   clear HNb
   by_cases hne : N = have0
   ·have HF := J (settle_end (n := N) HOK.u HN.u H5.u.2 (by rw [if_pos hne]; exact H5.u.1))
    subst hne
    clear H5
    go_wp2_with fail
    go_ret2
    exact HF.u
   as_aux_lemma =>
   have hbq : (N == have0) = false := by simp [hne]
   have hbn : (N != have0) = true := by simp [hne]
   have e10 : wd.cell? ⟨g, 10, none⟩ = some vm := H5.u.1.head.here rfl
   have hgw3 : g < wd.heap.size := H5.u.1.head.inside
   have hml := (Stb.ok_seen HS.u HOK.u).mlen
   have hm5 := J (show (s.seen now want).moved.length + 1 ≤ maxLen by simp only [maxLen]; omega)
   have hm6 := J (show ((s.seen now want).moved.length + 1) * 16 ≤ 140737488355328 by omega)
   have HNE := J hne
   have hww : IntKind.i64.wrap (N - have0) = N - have0 := IntWalk.i64_in _ (by omega)
   clear hne hml
   go_wp2_with (at_builtin; refine wpList_append_lies _ (by rfl) (.tmp 231) (.tmp 237) 164 (by rfl) 0 198 i0 (.agg #[.int .i64 0, .int .i64 0]) 2 16 Tryz.underlying164 hi hz0 hz1 hz2 rfl (by decide) vm _ _ rfl (H5.u.1.alloc _).mov.owns ⟨wd.heap.size, 0, none⟩ 1 1 [.int .i64 now, .int .i64 (N - have0)] rfl rfl (new_cells_in rfl) (by simp [Value.oneCell']) (by decide) hm5.u hm6.u (Nat.zero_le _) _ rfl ?_)
   intro b5 cap5 w5 hown5 hg5 ho5 hlt5
   obtain ⟨⟨d10, f10⟩, hA5, hC5⟩ := went_at (n := N - have0) H5.u.1 H5.u.2 (by decide) hown5 hg5 ho5 hlt5
   have HF := J (settle_end (n := N) HOK.u HN.u hC5 (by rw [if_neg HNE.u]; exact hA5))
   clear hown5 hg5 ho5 hlt5 hA5 hC5 e10
   go_wp2_with fail
   go_ret2
   exact HF.u
 have hdn : want < have0 := by omega
 have hne0 : (want == have0) = false := by simp [heq]
 clear heq hup
 as_aux_lemma =>
 have hgw2 : g < W1.heap.size := HA.u.head.inside
 go_upto_region 7 with fail
 clear d9 f9
 rw [hW1.u]
 have e4 : W1.cell? ⟨g, 4, none⟩ = some (.int .i64 s.down.win) := HA.u.head.here (i := 4) rfl
 have e5 : W1.cell? ⟨g, 5, none⟩ = some (.int .i64 s.down.pods) := HA.u.head.here (i := 5) rfl
 have e6 : W1.cell? ⟨g, 6, none⟩ = some (.int .i64 s.down.pct) := HA.u.head.here (i := 6) rfl
 have e7 : W1.cell? ⟨g, 7, none⟩ = some (.int .i64 s.down.per) := HA.u.head.here (i := 7) rfl
 obtain ⟨W2, hW2⟩ : ∃ W, Hid (W1.alloc (.cells #[.int .i64 s.down.win, .int .i64 s.down.pods, .int .i64 s.down.pct, .int .i64 s.down.per] 23) = W) := ⟨_, J rfl⟩
 have HP1 := J (show G.At (W1.alloc (.cells #[.int .i64 s.down.win, .int .i64 s.down.pods, .int .i64 s.down.pct, .int .i64 s.down.per] 23)) W1.heap.size 23 #[.int .i64 s.down.win, .int .i64 s.down.pods, .int .i64 s.down.pct, .int .i64 s.down.per] from G.At.made W1 23 #[.int .i64 s.down.win, .int .i64 s.down.pods, .int .i64 s.down.pct, .int .i64 s.down.per])
 have HB1 := J (show Below W1.heap.size W1 (W1.alloc (.cells #[.int .i64 s.down.win, .int .i64 s.down.pods, .int .i64 s.down.pct, .int .i64 s.down.per] 23)) from (Below.refl W1.heap.size W1).alloc (Nat.le_refl _) (.cells #[.int .i64 s.down.win, .int .i64 s.down.pods, .int .i64 s.down.pct, .int .i64 s.down.per] 23))
 rw [hW2.u] at HP1 HB1
 go_upto_region 12 with fail
 rw [hW2.u]
 clear hW2 e4 e5 e6 e7 
 have HA2 := J (below_at HA.u HC.u HB1.u)
 have hpw := HP1.u.inside
 generalize W1.heap.size = P at HP1 hpw ⊢
 have HWb := J (show ∀ m ∈ (s.seen now want).wanted, 0 ≤ m.2 ∧ m.2 ≤ 50 from fun m hm => (hokj.u.wan m hm).1)
 have HMb := J (show ∀ m ∈ (s.seen now want).moved, -50 ≤ m.2 ∧ m.2 ≤ 50 from fun m hm => (hokj.u.mov m hm).1)
 have HLens := J (show (s.seen now want).wanted.length ≤ 100000 ∧ (s.seen now want).moved.length ≤ 100000 ∧ 0 < (s.seen now want).wanted.length from ⟨by have := hokj.u.wlen; omega, by have := hokj.u.mlen; omega, by show 0 < (s.wanted ++ [_]).length; simp⟩)
 have HPk := J (show s.down.ok from HS.u.down)
 clear HA HC HB1 hgw2
 go_wp2_with fail
 go_loopw [10, 13] (fun sn i wr => ∃ k : Nat, k ≤ (s.seen now want).wanted.length ∧ i = .int .i64 k ∧ sn = .int .i64 (G.maxTo (now - s.down.win) want ((s.seen now want).wanted.take k)) ∧ Hid (Below W2.heap.size W2 wr)) (fun _ i _ => (s.seen now want).wanted.length - (intOf i).toNat)
 case atStart => exact ⟨0, by omega, rfl, rfl, J (Below.refl _ _)⟩
 obtain ⟨k, hk, rfl, rfl, HB⟩ := hrel
 have H3 := J (below_at HA2.u.1 HA2.u.2 HB.u)
 have HP3 := J (HP1.u.below HB.u hpw)
 obtain ⟨hl1, hl2, hl3⟩ := HLens.u
 have hgw3 : g < wr.heap.size := H3.u.1.head.inside
 have hpw3 : P < wr.heap.size := HP3.u.inside
 have nb := G.maxTo_bd (t := now - s.down.win) (l := (s.seen now want).wanted.take k) (fun m hm => HWb.u m (List.mem_of_mem_take hm)) a5 a6
 by_cases hlt : k < (s.seen now want).wanted.length
 ·as_aux_lemma =>
  obtain ⟨m, hm⟩ := G.get_some (s.seen now want).wanted hlt
  obtain ⟨b9, cap9, e, hbl, c0, c1⟩ := H3.u.1.want hm
  have e9 : wr.cell? ⟨g, 9, none⟩ = some (.slice (some ⟨b9, 0, none⟩) (s.seen now want).wanted.length cap9) := by rw [← e]; exact H3.u.1.head.here (i := 9) rfl
  have k0 : (0 : Int) ≤ (k : Int) := by omega
  have k1 : (k : Int) < ((s.seen now want).wanted.length : Int) := by omega
  have HSn := J (G.maxTo_snoc (t := now - s.down.win) (x := want) hm)
  have HBn := J (HB.u.alloc HB.u.size (.cells #[.int .i64 m.1, .int .i64 m.2] 198))
  have p0 := (HP3.u.alloc (.cells #[.int .i64 m.1, .int .i64 m.2] 198)).here (i := 0) rfl
  have e9' : (wr.alloc (.cells #[.int .i64 m.1, .int .i64 m.2] 198)).cell? ⟨g, 9, none⟩ = some (.slice (some ⟨b9, 0, none⟩) (s.seen now want).wanted.length cap9) := by rw [← e]; exact (H3.u.1.alloc (.cells #[.int .i64 m.1, .int .i64 m.2] 198)).head.here (i := 9) rfl
  clear e
  have mb := HWb.u m (List.mem_of_getElem? hm)
  obtain ⟨mb0, mb1⟩ := mb
  have w0 := HPk.u.1.1; have w1' := HPk.u.1.2
  have hw : IntKind.i64.wrap (now - s.down.win) = now - s.down.win := IntWalk.i64_in _ (by omega)
  have hwl : IntKind.i64.wrap (((s.seen now want).wanted.length : Int) - 1) = ((s.seen now want).wanted.length : Int) - 1 := IntWalk.i64_in _ (by omega)
  generalize G.maxTo (now - s.down.win) want ((s.seen now want).wanted.take k) = n0 at nb HSn ⊢
  obtain ⟨nb0, nb1, nb2⟩ := nb
  by_cases g1 : now - s.down.win < m.1
  ·have HN1 := J (HSn.u.trans (if_pos g1))
   clear hm HSn
   by_cases q : n0 < m.2
   ·have HN2 := J (HN1.u.trans (show max n0 m.2 = m.2 by omega))
    go_wp2_with fail
    go_roundw
    case rel => first | exact ⟨k + 1, by omega, by go_num, by rw [HN2.u], HBn⟩ | exact ⟨k + 1, by omega, by omega, by rw [HN2.u]⟩
    case measure => simp [intOf]; omega
   have q' : m.2 ≤ n0 := by omega
   have HN2 := J (HN1.u.trans (show max n0 m.2 = n0 by omega))
   clear q
   go_wp2_with fail
   go_roundw
   case rel => first | exact ⟨k + 1, by omega, by go_num, by rw [HN2.u], HBn⟩ | exact ⟨k + 1, by omega, by omega, by rw [HN2.u]⟩
   case measure => simp [intOf]; omega
  have g1' : m.1 ≤ now - s.down.win := by omega
  have HN1 := J (HSn.u.trans (if_neg g1))
  clear HSn g1
  cases g2 : (m.1 == now)
  ·clear hm
   go_wp2_with fail
   go_roundw
   case rel => first | exact ⟨k + 1, by omega, by go_num, by rw [HN1.u], HBn⟩ | exact ⟨k + 1, by omega, by omega, by rw [HN1.u]⟩
   case measure => simp [intOf]; omega
  cases g3 : ((k : Int) == ((s.seen now want).wanted.length : Int) - 1)
  ·clear hm
   go_wp2_with fail
   go_roundw
   case rel => first | exact ⟨k + 1, by omega, by go_num, by rw [HN1.u], HBn⟩ | exact ⟨k + 1, by omega, by omega, by rw [HN1.u]⟩
   case measure => simp [intOf]; omega
  have hke : k = (s.seen now want).wanted.length - 1 := by have := g3; simp only [beq_iff_eq] at this; omega
  have hmw : m = (now, want) := by rw [hke, HLast.u] at hm; exact (Option.some.inj hm).symm
  have q' : m.2 ≤ n0 := by rw [hmw]; exact nb2
  clear hm hmw hke
  go_wp2_with fail
  go_roundw
  case rel => first | exact ⟨k + 1, by omega, by go_num, by rw [HN1.u], HBn⟩ | exact ⟨k + 1, by omega, by omega, by rw [HN1.u]⟩
  case measure => simp [intOf]; omega
 as_aux_lemma =>
 have hke : k = (s.seen now want).wanted.length := by omega
 subst hke
 rw [List.take_length] at nb ⊢
 have p0 := HP3.u.here (i := 0) rfl; have p1 := HP3.u.here (i := 1) rfl; have p2 := HP3.u.here (i := 2) rfl; have p3 := HP3.u.here (i := 3) rfl
 obtain ⟨⟨w0, w1'⟩, ⟨u0, u1⟩, ⟨v0, v1⟩, ⟨x0, x1⟩⟩ := HPk.u
 have hnb := settleN0_bd (s.seen now want) now have0 want (fun m hm => (hokj.u.wan m hm).1) a3 a4 a5 a6
 have HMod := J (show G.settleN0 (s.seen now want) now have0 want = G.calDn (s.seen now want) now have0 want by unfold G.settleN0; rw [if_neg (by omega), if_pos hdn]; exact G.calDn_is hokj.u now have0 want)
 have HNb := J hnb
 obtain ⟨n0, hn0⟩ : ∃ n0, Hid (G.maxTo (now - s.down.win) want (s.seen now want).wanted = n0) := ⟨_, J rfl⟩
 rw [hn0.u] at nb ⊢
 obtain ⟨nb0, nb1, nb2⟩ := nb
 clear hnb hlt hpw
 have e9 : wr.cell? ⟨g, 9, none⟩ = some (.slice (some ⟨b, 0, none⟩) (s.seen now want).wanted.length cap) := by rw [show (s.seen now want).wanted.length = s.wanted.length + 1 by show (s.wanted ++ [_]).length = _; simp]; exact H3.u.1.head.here (i := 9) rfl
 go_upto_region 19 with fail
 clear e9
 go_cut [140] (fun s1 wx => s1 = .bool s.down.limited ∧ wr = wx)
 case first =>
  as_aux_lemma =>
  by_cases z1 : s.down.per = 0
  ·rw [z1] at p3
   have HL := J (show s.down.limited = false by unfold G.Pace.limited; simp [z1])
   go_wp2_with fail
   go_meet
   exact ⟨by rw [HL.u], rfl⟩
  have z1' : (s.down.per == 0) = false := by simp [z1]
  have z1'' : (s.down.per != 0) = true := by simp [z1]
  by_cases z2 : s.down.pods = 0
  ·rw [z2] at p1
   by_cases z3 : s.down.pct = 0
   ·rw [z3] at p2
    have HL := J (show s.down.limited = false by unfold G.Pace.limited; simp [z2, z3])
    go_wp2_with fail
    go_meet
    exact ⟨by rw [HL.u], rfl⟩
   have z3' : (s.down.pct != 0) = true := by simp [z3]
   have HL := J (show s.down.limited = true by unfold G.Pace.limited; simp; omega)
   go_wp2_with fail
   go_meet
   exact ⟨by rw [HL.u], rfl⟩
  have z2' : (s.down.pods != 0) = true := by simp [z2]
  have HL := J (show s.down.limited = true by unfold G.Pace.limited; simp; omega)
  go_wp2_with fail
  go_meet
  exact ⟨by rw [HL.u], rfl⟩
 case rest =>
 obtain ⟨rfl, rfl⟩ := hcut
 cases hlim : s.down.limited
 ·have HN := J (show min n0 have0 = G.settleN0 (s.seen now want) now have0 want by rw [HMod.u]; unfold G.calDn; simp only [show (s.seen now want).down.limited = false from hlim, Bool.false_eq_true, if_false]; rw [show (s.seen now want).down.win = s.down.win from rfl, hn0.u])
  rw [← HN.u] at HNb
  clear p0 p1 p2 p3 hlim HMod
  generalize n0 = n1 at HN HNb hn0 nb0 nb1 nb2 ⊢
  as_aux_lemma =>
  go_upto_region 37 with fail
  go_cut [10] (fun s10 wx => s10 = .int .i64 (min n1 have0) ∧ wr = wx)
  case first =>
   as_aux_lemma =>
   by_cases hc : have0 < n1
   ·go_wp2_with fail
    go_meet
    exact ⟨by rw [show min n1 have0 = have0 by omega], rfl⟩
   have hc' : n1 ≤ have0 := by omega
   go_wp2_with fail
   go_meet
   exact ⟨by rw [show min n1 have0 = n1 by omega], rfl⟩
  case rest =>
  obtain ⟨rfl, rfl⟩ := hcut
  generalize min n1 have0 = N at HN HNb ⊢
  obtain ⟨b0, b1⟩ := HNb.u
  clear HNb
  by_cases hne : N = have0
  ·have HF := J (settle_end (n := N) HOK.u HN.u H3.u.2 (by rw [if_pos hne]; exact H3.u.1))
   subst hne
   clear HP3 H3
   go_wp2_with fail
   go_ret2
   exact HF.u
  as_aux_lemma =>
  have hbq : (N == have0) = false := by simp [hne]
  have hbn : (N != have0) = true := by simp [hne]
  have e10 : wr.cell? ⟨g, 10, none⟩ = some vm := H3.u.1.head.here rfl
  have hgw3 : g < wr.heap.size := H3.u.1.head.inside
  have hml := (Stb.ok_seen HS.u HOK.u).mlen
  have hm5 := J (show (s.seen now want).moved.length + 1 ≤ maxLen by simp only [maxLen]; omega)
  have hm6 := J (show ((s.seen now want).moved.length + 1) * 16 ≤ 140737488355328 by omega)
  have HNE := J hne
  have hww : IntKind.i64.wrap (N - have0) = N - have0 := IntWalk.i64_in _ (by omega)
  clear hne hml HP3
  go_wp2_with (at_builtin; refine wpList_append_lies _ (by rfl) (.tmp 231) (.tmp 237) 164 (by rfl) 0 198 i0 (.agg #[.int .i64 0, .int .i64 0]) 2 16 Tryz.underlying164 hi hz0 hz1 hz2 rfl (by decide) vm _ _ rfl (H3.u.1.alloc _).mov.owns ⟨wr.heap.size, 0, none⟩ 1 1 [.int .i64 now, .int .i64 (N - have0)] rfl rfl (new_cells_in rfl) (by simp [Value.oneCell']) (by decide) hm5.u hm6.u (Nat.zero_le _) _ rfl ?_)
  intro b5 cap5 w5 hown5 hg5 ho5 hlt5
  obtain ⟨⟨d10, f10⟩, hA5, hC5⟩ := went_at (n := N - have0) H3.u.1 H3.u.2 (by decide) hown5 hg5 ho5 hlt5
  have HF := J (settle_end (n := N) HOK.u HN.u hC5 (by rw [if_neg HNE.u]; exact hA5))
  clear hown5 hg5 ho5 hlt5 hA5 hC5 e10
  go_wp2_with fail
  go_ret2
  exact HF.u
 as_aux_lemma =>
 obtain ⟨wo, rfl⟩ : ∃ wo : World, wo = wr := ⟨_, rfl⟩
 clear p0 p1 p2 p3
 go_wp2_with fail
 go_loopw [15, 16] (fun sm i wr => ∃ k : Nat, k ≤ (s.seen now want).moved.length ∧ i = .int .i64 k ∧ sm = .int .i64 (G.dnTo2 (now - s.down.per) ((s.seen now want).moved.take k)) ∧ Hid (Below wo.heap.size wo wr)) (fun _ i _ => (s.seen now want).moved.length - (intOf i).toNat)
 case atStart => exact ⟨0, by omega, rfl, rfl, J (Below.refl _ _)⟩
 obtain ⟨k, hk, rfl, rfl, HB2⟩ := hrel
 have H4 := J (below_at H3.u.1 H3.u.2 HB2.u)
 have HP4 := J (HP3.u.below HB2.u HP3.u.inside)
 have hgw4 : g < wr.heap.size := H4.u.1.head.inside
 have hpw4 : P < wr.heap.size := HP4.u.inside
 have mb := G.dnTo2_bd (t := now - s.down.per) (l := (s.seen now want).moved.take k) (fun m hm => HMb.u m (List.mem_of_mem_take hm))
 have ml : (((s.seen now want).moved.take k).length : Int) ≤ 100000 := by rw [List.length_take]; omega
 by_cases hlt : k < (s.seen now want).moved.length
 ·as_aux_lemma =>
  obtain ⟨m, hm⟩ := G.get_some (s.seen now want).moved hlt
  obtain ⟨b9, cap9, e, hbl, c0, c1⟩ := H4.u.1.move hm
  have e10 : wr.cell? ⟨g, 10, none⟩ = some (.slice (some ⟨b9, 0, none⟩) (s.seen now want).moved.length cap9) := by rw [← e]; exact H4.u.1.head.here (i := 10) rfl
  have k0 : (0 : Int) ≤ (k : Int) := by omega
  have k1 : (k : Int) < ((s.seen now want).moved.length : Int) := by omega
  have HSn := J (G.dnTo2_snoc (t := now - s.down.per) hm)
  have HBn := J (HB2.u.alloc HB2.u.size (.cells #[.int .i64 m.1, .int .i64 m.2] 198))
  have p3 := (HP4.u.alloc (.cells #[.int .i64 m.1, .int .i64 m.2] 198)).here (i := 3) rfl
  have hmb := HMb.u m (List.mem_of_getElem? hm)
  have hw : IntKind.i64.wrap (now - s.down.per) = now - s.down.per := IntWalk.i64_in _ (by omega)
  generalize G.dnTo2 (now - s.down.per) ((s.seen now want).moved.take k) = M0 at mb HSn ⊢
  obtain ⟨mb0, mb1⟩ := mb
  have hws : IntKind.i64.wrap (M0 - m.2) = M0 - m.2 := IntWalk.i64_in _ (by omega)
  clear e hm
  by_cases g1 : now - s.down.per < m.1
  ·have HN1 := J (HSn.u.trans (if_pos g1))
   clear HSn
   by_cases q : m.2 < 0
   ·have HN2 := J (HN1.u.trans (show M0 + max (-m.2) 0 = M0 - m.2 by omega))
    go_wp2_with fail
    go_roundw
    case rel => first | exact ⟨k + 1, by omega, by go_num, by rw [HN2.u], HBn⟩ | exact ⟨k + 1, by omega, by omega, by rw [HN2.u]⟩
    case measure => simp [intOf]; omega
   have q' : 0 ≤ m.2 := by omega
   have HN2 := J (HN1.u.trans (show M0 + max (-m.2) 0 = M0 by omega))
   clear q
   go_wp2_with fail
   go_roundw
   case rel => first | exact ⟨k + 1, by omega, by go_num, by rw [HN2.u], HBn⟩ | exact ⟨k + 1, by omega, by omega, by rw [HN2.u]⟩
   case measure => simp [intOf]; omega
  have g1' : m.1 ≤ now - s.down.per := by omega
  have HN1 := J (HSn.u.trans (if_neg g1))
  clear HSn g1
  go_wp2_with fail
  go_roundw
  case rel => first | exact ⟨k + 1, by omega, by go_num, by rw [HN1.u], HBn⟩ | exact ⟨k + 1, by omega, by omega, by rw [HN1.u]⟩
  case measure => simp [intOf]; omega
 as_aux_lemma =>
 have hke : k = (s.seen now want).moved.length := by omega
 subst hke
 rw [List.take_length] at mb ml ⊢
 obtain ⟨Am, capm, hvm, _, _, _⟩ := H4.u.1.mov.slice
 have e10 : wr.cell? ⟨g, 10, none⟩ = some (.slice Am (s.seen now want).moved.length capm) := by rw [← hvm]; exact H4.u.1.head.here (i := 10) rfl
 obtain ⟨M0, hM0⟩ : ∃ M0, Hid (G.dnTo2 (now - s.down.per) (s.seen now want).moved = M0) := ⟨_, J rfl⟩
 rw [hM0.u] at mb ⊢
 obtain ⟨mb0, mb1⟩ := mb
 have mb2 : M0 ≤ 5000000 := by omega
 clear hvm hlt ml mb1
 have hwb : IntKind.i64.wrap (have0 + M0) = have0 + M0 := IntWalk.i64_in _ (by omega)
 obtain ⟨B, hB, B0, B1⟩ : ∃ B, Hid (have0 + M0 = B) ∧ 0 ≤ B ∧ B ≤ 5100000 := ⟨_, J rfl, by omega, by omega⟩
 have hwm : IntKind.i64.wrap (s.down.pct * 10) = s.down.pct * 10 := IntWalk.i64_in _ (by omega)
 obtain ⟨z0, z1⟩ := G.sharec_bd B (s.down.pct * 10)
 obtain ⟨C, hC⟩ : ∃ C, Hid (G.sharec B (s.down.pct * 10) = C) := ⟨_, J rfl⟩
 rw [hC.u] at z0 z1
 obtain ⟨mx, hmx⟩ : ∃ mx, Hid (max s.down.pods C = mx) := ⟨_, J rfl⟩
 have mx0 : 0 ≤ mx := by have := hmx.u; omega
 have mx1 : mx ≤ 1000000000000000 := by have := hmx.u; omega
 have E1 : (if s.down.pods < C then C else s.down.pods) = mx := by have := hmx.u; split <;> omega
 have hwa : IntKind.i64.wrap (B - mx) = B - mx := IntWalk.i64_in _ (by omega)
 obtain ⟨n1, hr⟩ : ∃ r, Hid (max n0 (B - mx) = r) := ⟨_, J rfl⟩
 have E2 : (if n0 < B - mx then B - mx else n0) = n1 := by have := hr.u; split <;> omega
 have HN := J (show min n1 have0 = G.settleN0 (s.seen now want) now have0 want by
  rw [HMod.u]; unfold G.calDn
  simp only [show (s.seen now want).down.limited = true from hlim, if_true]
  show _ = min (max (G.maxTo (now - s.down.win) want (s.seen now want).wanted) (have0 + G.dnTo2 (now - s.down.per) (s.seen now want).moved - max s.down.pods (G.sharec (have0 + G.dnTo2 (now - s.down.per) (s.seen now want).moved) (s.down.pct * 10)))) have0
  rw [hn0.u, hM0.u, hB.u, hC.u, hmx.u, hr.u])
 have y1 := HP4.u.drew.here (i := 1) rfl; have y2 := HP4.u.drew.here (i := 2) rfl
 go_upto_region 34 with fail
 rw [hB.u]
 clear e10 hwb
 go_wp2_with fail
 go_region_held3 (fun w' => w'.cell? ⟨P, 1, none⟩ = some (.int .i64 s.down.pods) ∧ w'.cell? ⟨P, 2, none⟩ = some (.int .i64 s.down.pct)) (first | exact ⟨y1, y2⟩ | go_keep) (first | (go_at_call 145; refine (refShare _ _ _).mono ?_; rintro e w' ⟨rfl, rfl⟩; rw [hC.u]) | (go_simp; (try simp only [E1, E2])))
 all_goals
  have H5 := J (below_at H4.u.1 H4.u.2 (Below.refl wr.heap.size wr).drew)
  rw [← HN.u] at HNb
  clear y1 y2 hwm hwa E1 E2 z0 z1 mx0 mx1 hgw4 hpw4 H3 H4 HP3 HP4 HB2 B0 B1 mb0 mb2 HMod hr hmx hC hB hn0 hM0
  generalize wr.drew = wd at H5 ⊢
  as_aux_lemma =>
  go_upto_region 37 with fail
  go_cut [10] (fun s10 wx => s10 = .int .i64 (min n1 have0) ∧ wd = wx)
  case first =>
   as_aux_lemma =>
   by_cases hc : have0 < n1
   ·go_wp2_with fail
    go_meet
    exact ⟨by rw [show min n1 have0 = have0 by omega], rfl⟩
   have hc' : n1 ≤ have0 := by omega
   go_wp2_with fail
   go_meet
   exact ⟨by rw [show min n1 have0 = n1 by omega], rfl⟩
  case rest =>
  obtain ⟨rfl, rfl⟩ := hcut
  generalize min n1 have0 = N at HN HNb ⊢
  obtain ⟨b0, b1⟩ := HNb.u
  clear HNb
  by_cases hne : N = have0
  ·have HF := J (settle_end (n := N) HOK.u HN.u H5.u.2 (by rw [if_pos hne]; exact H5.u.1))
   subst hne
   clear H5
   go_wp2_with fail
   go_ret2
   exact HF.u
  as_aux_lemma =>
  have hbq : (N == have0) = false := by simp [hne]
  have hbn : (N != have0) = true := by simp [hne]
  have e10 : wd.cell? ⟨g, 10, none⟩ = some vm := H5.u.1.head.here rfl
  have hgw3 : g < wd.heap.size := H5.u.1.head.inside
  have hml := (Stb.ok_seen HS.u HOK.u).mlen
  have hm5 := J (show (s.seen now want).moved.length + 1 ≤ maxLen by simp only [maxLen]; omega)
  have hm6 := J (show ((s.seen now want).moved.length + 1) * 16 ≤ 140737488355328 by omega)
  have HNE := J hne
  have hww : IntKind.i64.wrap (N - have0) = N - have0 := IntWalk.i64_in _ (by omega)
  clear hne hml
  go_wp2_with (at_builtin; refine wpList_append_lies _ (by rfl) (.tmp 231) (.tmp 237) 164 (by rfl) 0 198 i0 (.agg #[.int .i64 0, .int .i64 0]) 2 16 Tryz.underlying164 hi hz0 hz1 hz2 rfl (by decide) vm _ _ rfl (H5.u.1.alloc _).mov.owns ⟨wd.heap.size, 0, none⟩ 1 1 [.int .i64 now, .int .i64 (N - have0)] rfl rfl (new_cells_in rfl) (by simp [Value.oneCell']) (by decide) hm5.u hm6.u (Nat.zero_le _) _ rfl ?_)
  intro b5 cap5 w5 hown5 hg5 ho5 hlt5
  obtain ⟨⟨d10, f10⟩, hA5, hC5⟩ := went_at (n := N - have0) H5.u.1 H5.u.2 (by decide) hown5 hg5 ho5 hlt5
  have HF := J (settle_end (n := N) HOK.u HN.u hC5 (by rw [if_neg HNE.u]; exact hA5))
  clear hown5 hg5 ho5 hlt5 hA5 hC5 e10
  go_wp2_with fail
  go_ret2
  exact HF.u
end Go.Proofs.YtidonhndeohdlaaGreat
