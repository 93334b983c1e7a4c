/- Parts of this claim: QueD, StbH, StbK, SekC, SekD, SekE, SpanP. -/
import Derived.Test.YtidonhndeohdlaaGreatWlQueC
import Derived.Test.YtidonhndeohdlaaGreatWl14
import Derived.Test.YtidonhndeohdlaaGreatWl08
set_option linter.unusedVariables false
set_option linter.unusedSimpArgs false
set_option maxRecDepth 100000
set_option maxHeartbeats 12800000
namespace Go.Proofs.YtidonhndeohdlaaGreat
open Go.RowKit
theorem que_info : (Tryz.prog.info? 111).map (fun i => (i.zero, i.size, i.bytes)) = some (some (.agg #[.int .i64 0, .int .i64 0, .bool false]), 3, 24) := by kernel_rfl
def que_zero : List Value := [.int .i64 0, .int .i64 0, .bool false]
theorem que_clear (w : World) (ty : TypeId) (b o c : Nat) (hc : ∀ j, j < 3 → (w.cell? ⟨b, o + j, none⟩).isSome = true) (hf : ∀ j, j < 3 → w.frozen? ⟨b, o + j, none⟩ = false) :
  (Builtin.clear_ #[72] ty #[.slice (some ⟨b, o, none⟩) 1 c]).run Tryz.prog w = .ok (.tuple #[]) (w.setCells b o que_zero) := by
 have hv : ∀ w, (zeroValue 111).run Tryz.prog w = .ok (.agg #[.int .i64 0, .int .i64 0, .bool false]) w := fun w => by kernel_rfl
 have hst := run_storeCells_cells (P := Tryz.prog) b o que_zero 0 w (by simpa [que_zero] using hc) (by simpa [que_zero] using hf) (by simp [que_zero, Value.oneCell'])
 simp only [Nat.add_zero] at hst
 have hzc : (Builtin.zeroCells (Value.agg #[.int .i64 0, .int .i64 0, .bool false]).cells 1).toList = que_zero := by kernel_rfl
 simp [Builtin.clear_, run_underlying Tryz.underlying72, hv, hzc, hst]
theorem que_delete (S : Nat → Prop) (w : World) (b cap n i : Nat) (xs : List Value) (h : G.OwnRow S w 111 3 (.slice (some ⟨b, 0, none⟩) n cap) n xs) (hi : i < n) (h1 : ∀ u ∈ xs, u.oneCell' = true) :
  Calls Tryz.prog 71 #[.slice (some ⟨b, 0, none⟩) n cap, .int .i64 i, .int .i64 ((i : Int) + 1)] w fun e w' => e = .returned (.slice (some ⟨b, 0, none⟩) (n - 1) cap) ∧
   G.OwnRow S w' 111 3 (.slice (some ⟨b, 0, none⟩) (n - 1) cap) (n - 1) (xs.take (i * 3) ++ xs.drop ((i + 1) * 3)) ∧ G.Chg (fun x => x = b) w w' := by
 obtain ⟨b', cap', e, hS, hcap, hmax, hrow⟩ := h.form (by omega)
 cases e
 have hlen := h.1
 obtain ⟨news, hnews⟩ : ∃ news, news = xs.drop ((i + 1) * 3) := ⟨_, rfl⟩
 have hnl : news.length = (n - (i + 1)) * 3 := by rw [hnews, List.length_drop, hlen]; omega
 obtain ⟨A, hA, hsrc⟩ : ∃ A : Addr, (if cap = i + 1 then some (⟨b, 0, none⟩ : Addr) else some ⟨b, (i + 1) * 3, none⟩) = some A ∧ Hid (∀ t u, news[t]? = some u → w.drew.cell? (A.add t) = some u) := by
  by_cases hc : cap = i + 1
  ·refine ⟨⟨b, 0, none⟩, by simp [hc], fun t u hu => ?_⟩
   have h0 : news.length = 0 := by rw [hnl]; omega
   rw [List.length_eq_zero_iff.1 h0] at hu
   simp at hu
  refine ⟨⟨b, (i + 1) * 3, none⟩, by simp [hc], fun t u hu => ?_⟩
  rw [hnews, List.getElem?_drop] at hu
  rw [Addr.add_lit]
  exact hrow.cell hu
 have s2 : Hid (∀ u ∈ news, u.oneCell' = true) := fun u hu => h1 u (List.mem_of_mem_drop (by rw [hnews] at hu; exact hu))
 have s3 : Hid (∀ t, t < news.length → (w.drew.cell? ⟨b, 0 + i * 3 + t, none⟩).isSome = true ∧ w.drew.frozen? ⟨b, 0 + i * 3 + t, none⟩ = false) := by
  intro t ht
  rw [hnl] at ht
  have hlt : 0 + i * 3 + t < xs.length := by rw [hlen]; omega
  exact ⟨by show (w.cell? _).isSome = true; rw [hrow.cell (List.getElem?_eq_getElem hlt)]; rfl, hrow.soft _⟩
 obtain ⟨W1, hW1⟩ : ∃ W1, W1 = w.drew.setCells b (0 + i * 3) news := ⟨_, rfl⟩
 have hR1 : G.RowIn W1 b 111 (cap * 3) (xs.take (0 + i * 3) ++ news ++ xs.drop (0 + i * 3 + news.length)) := by
  rw [hW1]; exact G.RowIn.puts news _ hrow.drew (by rw [hlen, hnl]; omega)
 have hch1 : G.Chg (fun x => x = b) w W1 := by rw [hW1]; exact G.Chg.puts (S := fun x => x = b) (.inl rfl) _ _ (G.Chg.refl _ w).drew
 have hl1 : (xs.take (0 + i * 3) ++ news ++ xs.drop (0 + i * 3 + news.length)).length = n * 3 := by simp [hnl, hlen]; omega
 have hcl : ∀ ty c, (Builtin.clear_ #[72] ty #[.slice (some ⟨b, (i + (n - (i + 1))) * 3, none⟩) (n - (i + (n - (i + 1)))) c]).run Tryz.prog W1 = .ok (.tuple #[]) (W1.setCells b ((n - 1) * 3) que_zero) := by
  rw [show i + (n - (i + 1)) = n - 1 by omega, show n - (n - 1) = 1 by omega]
  exact fun ty c => que_clear W1 ty b _ _ (fun t ht => by
   rw [hR1.cell (List.getElem?_eq_getElem (show (n - 1) * 3 + t < _ by rw [hl1]; omega))]; rfl) (fun t ht => hR1.soft _)
 have hfin : G.OwnRow S (W1.setCells b ((n - 1) * 3) que_zero) 111 3 (.slice (some ⟨b, 0, none⟩) (n - 1) cap) (n - 1) (xs.take (i * 3) ++ xs.drop ((i + 1) * 3)) := by
  have hR2 := (G.RowIn.puts que_zero ((n - 1) * 3) hR1 (by rw [hl1]; simp [que_zero]; omega)).fewer ((n - 1) * 3)
  have e : (List.take ((n - 1) * 3) (xs.take (0 + i * 3) ++ news ++ xs.drop (0 + i * 3 + news.length)) ++ que_zero ++ List.drop ((n - 1) * 3 + que_zero.length) (xs.take (0 + i * 3) ++ news ++ xs.drop (0 + i * 3 + news.length))).take ((n - 1) * 3) = xs.take (i * 3) ++ xs.drop ((i + 1) * 3) := by
   have e1 : (xs.take (0 + i * 3) ++ news).length = (n - 1) * 3 := by simp [hnl, hlen]; omega
   rw [List.append_assoc, List.take_append_of_le_length (by rw [List.length_take, hl1]; omega), List.take_take, Nat.min_self, List.take_append_of_le_length (by omega), List.take_of_length_le (by omega), Nat.zero_add, hnews]
  rw [e] at hR2
  refine ⟨by simp [hlen]; omega, .inr ⟨b, cap, rfl, hS, by omega, hmax, hR2⟩⟩
 have hch2 : G.Chg (fun x => x = b) w (W1.setCells b ((n - 1) * 3) que_zero) := G.Chg.puts (S := fun x => x = b) (.inl rfl) _ _ hch1
 have HF := J hfin; have HC := J hch2; have HW := J hW1
 have q1 : i ≤ cap := by omega
 have q2 : i + 1 ≤ cap := by omega
 have q3 : (i : Int) + 1 ≤ (n : Int) := by omega
 have q6 : (0 : Int) ≤ (i : Int) + 1 := by omega
 have q4 : n ≤ cap := hcap
 have q5 : cap ≤ 9223372036854775807 := hmax
 have hsl := J hnl
 have hn1 := J (show i + (n - (i + 1)) = n - 1 by omega)
 have HA := J hA
 obtain ⟨i0, hi0, hz0, hz1, hz2⟩ := info_parts que_info
 clear h hrow hlen hnews hnl hR1 hl1 hch1 hch2 hfin hW1 h1 hcap hmax
 go_enter Tryz.func71, Tryz.ntmps71
 go_wp2_with fail
 clear hA
 go_region_law (refine step_append_room (by rfl) (.tmp 22) (.tmp 25) 72 (by rfl) 111 i0 3 Tryz.underlying72 hi0 hz1 b 0 i cap (by simp [Act.eval, Act.put]) A (n - (i + 1)) (cap - (i + 1)) news (by simp [Act.eval, Act.put, HA.u]) hsl.u hsrc.u s2.u (by omega) s3.u ?_; rw [← HW.u])
 go_wp2_with fail
 all_goals
  go_ret
  have hf := HF.u
  by_cases hcc : cap = i + 1
  ·rw [hcc] at hf
   first | exact ⟨(by rw [hn1.u] <;> rfl), hf, HC.u⟩ | exact absurd hcc ‹_›
  first | exact ⟨(by rw [hn1.u] <;> rfl), hf, HC.u⟩ | exact absurd ‹cap = i + 1› hcc
def que_ClonePost (w : World) (n : Nat) (xs : List Value) (e : Ending) (w' : World) : Prop := ∃ v', e = .returned v' ∧ G.OwnRow (fun b => w.heap.size ≤ b) w' 111 3 v' n xs ∧ Below w.heap.size w w'
theorem que_clone (S : Nat → Prop) (w : World) (v : Value) (n : Nat) (xs : List Value) (h : G.OwnRow S w 111 3 v n xs) (hn : n ≤ 100000000) (h1 : ∀ u ∈ xs, u.oneCell' = true) :
  Calls Tryz.prog 126 #[v] w (que_ClonePost w n xs) := by
 have heq := @Lib.run_eql_slice_nil Tryz.prog
 rcases h.2 with ⟨rfl, rfl⟩ | ⟨g, cap, rfl, hS, hcap, hmax, hrow⟩
 ·have hx : xs = [] := List.length_eq_zero_iff.1 (h.1.trans (Nat.zero_mul _))
  have HF := J (show que_ClonePost w 0 xs (.returned (.slice none 0 0)) w from ⟨_, rfl, by rw [hx]; exact G.OwnRow.nil _ _ _ _, Below.refl _ _⟩)
  have hq := fun w => Lib.run_eql_slice_nil (P := Tryz.prog) w 72 111 none 0 0 0 0 Tryz.underlying72
  clear h hx heq
  go_enter Tryz.func126, Tryz.ntmps126
  go_wp2_with fail
  go_ret
  exact HF.u
 have hq := fun w => Lib.run_eql_slice_nil (P := Tryz.prog) w 72 111 (some ⟨g, 0, none⟩) n cap 0 0 Tryz.underlying72
 have hlen := h.1
 obtain ⟨i0, hi0, hz0, hz1, hz2⟩ := info_parts que_info
 have HR := J hrow; have H1 := J h1; have HL := J hlen
 have hown : (w.alloc (.cells #[] 111)).ownsRow w.heap.size 111 3 (.slice (some ⟨w.heap.size, 0, none⟩) 0 0) 0 [] := World.ownsRow_made w #[] 0 (Nat.le_refl _) (Nat.zero_le _) rfl
 have HO := J hown
 have hm3 := J (show 0 + n ≤ maxLen by simp only [maxLen]; omega)
 have hm4 := J (show (0 + n) * 24 ≤ 140737488355328 by omega)
 clear h hrow h1 hlen hown hcap hmax hn heq
 go_enter Tryz.func126, Tryz.ntmps126
 go_wp2_with (at_builtin; refine wpList_append_own _ (by rfl) (.tmp 5) (.tmp 6) 72 (by rfl) w.heap.size 111 i0 (.agg #[.int .i64 0, .int .i64 0, .bool false]) 3 24 Tryz.underlying72 hi0 hz0 hz1 hz2 rfl (by decide) _ _ _ rfl HO.u ⟨g, 0, none⟩ n cap xs rfl HL.u ?c1 H1.u hm3.u hm4.u ?c5 ?_)
 case c1 => exact fun j u hu => by rw [Addr.add_lit, Nat.zero_add]; exact (HR.u.alloc _).cell hu
 case c5 => simp
 intro v' w1 hown1 hg1 _
 have HF := J (show que_ClonePost w n xs (.returned v') w1 from by
  refine ⟨v', rfl, ?_, (((Below.refl _ w).alloc (Nat.le_refl _) _)).grown hg1 (by simp) (fun k hk => by simp [Value.ownBlock] at hk; omega)⟩
  exact G.OwnRow.of_owns hown1 (G.own_ge hown1))
 clear hown1 hg1
 go_wp2_with fail
 go_ret
 exact HF.u
/- slices.IndexFunc at []api.Message, the function (*queue.Queue).Lease$1 -/
theorem queL_index  (p : G.Msg → Bool) (l : List G.Msg) (v : Value) (w : World) (hv : G.ListIn w 3 G.Msg.enc v l) (hlen : l.length ≤ 100000000)
  (hp : ∀ (m : G.Msg) (W : World), Below w.heap.size w W → Calls Tryz.prog 69 #[.agg #[.int .i64 m.id, .int .i64 m.till, .bool m.taken]] W fun e W' => e = .returned (.bool (p m)) ∧ Below W.heap.size W W') :
  Calls Tryz.prog 68 #[v, .func (.func 69) #[] #[]] w fun e w' => e = .returned (.int .i64 (G.idxOf (G.firstAt p l))) ∧ Below w.heap.size w w' := by
 obtain ⟨A, cap, rfl, hA⟩ := hv
 have HA := J hA; have HP := J hp
 clear hA hp
 go_enter Tryz.func68, Tryz.ntmps68
 go_wp2_with fail
 go_loopw [8] (fun i wr => ∃ k : Nat, k ≤ l.length ∧ i = .int .i64 k ∧ Hid (∀ (t : Nat) (b : G.Msg), t < k → l[t]? = some b → p b = false) ∧ Below w.heap.size w wr) (fun i _ => l.length - (intOf i).toNat)
 case atStart => exact ⟨0, by omega, rfl, fun t b ht => by omega, Below.refl _ _⟩
 obtain ⟨k, hk, rfl, hno, hb⟩ := hrel
 by_cases hlt : k < l.length
 ·obtain ⟨m, hm⟩ := G.get_some l hlt
  obtain ⟨b, off, rfl, hbl, hc⟩ := HA.u (by omega)
  have cl : ∀ (j : Nat) (u : Value), m.enc[j]? = some u → wr.cell? ⟨b, off + k * 3 + j, none⟩ = some u := fun j u hu => (hb.cell (p := ⟨b, off + k * 3 + j, none⟩) hbl).trans (hc k m j u hm hu)
  have c0 : wr.cell? ⟨b, off + k * 3, none⟩ = _ := cl 0 _ rfl
  have c1 := cl 1 _ rfl; have c2 := cl 2 _ rfl
  have i0 : (0 : Int) ≤ (k : Int) := by omega
  have i1 : (k : Int) < (l.length : Int) := by omega
  have HM := J hm
  clear hc cl hm
  go_wp2_with fail
  refine (HP.u m _ hb).mono ?_
  rintro e w1 ⟨rfl, hb1⟩
  have HB := J (hb.trans (hb1.mono hb.size))
  cases hpm : p m
  ·have HN := J (show ∀ (t : Nat) (b : G.Msg), t < k + 1 → l[t]? = some b → p b = false from fun t b ht hb => by
    rcases Nat.lt_succ_iff_lt_or_eq.mp ht with h | h
    ·exact hno.u t b h hb
    subst h; rw [HM.u] at hb; cases hb; exact hpm)
   clear hb hb1 hno hpm
   go_wp2_with fail
   go_roundw
   case rel => exact ⟨k + 1, by omega, by go_num, HN, HB.u⟩
   case measure => simp [intOf]; omega
  have HN := J (G.firstAt_some hno.u HM.u hpm)
  clear hb hb1 hno hpm
  go_wp2_with fail
  go_ret
  exact ⟨by rw [HN.u]; rfl, HB.u⟩
 have hke : k = l.length := by omega
 have HN := J (G.firstAt_none (p := p) (l := l) (fun t b hb => hno.u t b (by rw [hke]; exact G.get_lt hb) hb))
 have HB := J hb
 clear hb hno hke
 go_wp2_with fail
 go_ret
 exact ⟨by rw [HN.u]; rfl, HB.u⟩
/- slices.IndexFunc at []api.Message, the function (*queue.Queue).Ack$1 -/
theorem queA_index (B : Nat) (p : G.Msg → Bool) (l : List G.Msg) (v : Value) (w : World) (hv : G.ListIn w 3 G.Msg.enc v l) (hlen : l.length ≤ 100000000)
  (hp : ∀ (m : G.Msg) (W : World), Below w.heap.size w W → Calls Tryz.prog 70 #[.agg #[.int .i64 m.id, .int .i64 m.till, .bool m.taken], .pointer (some ⟨B, 0, none⟩)] W fun e W' => e = .returned (.bool (p m)) ∧ Below W.heap.size W W') :
  Calls Tryz.prog 68 #[v, .func (.func 70) #[] #[.pointer (some ⟨B, 0, none⟩)]] w fun e w' => e = .returned (.int .i64 (G.idxOf (G.firstAt p l))) ∧ Below w.heap.size w w' := by
 obtain ⟨A, cap, rfl, hA⟩ := hv
 have HA := J hA; have HP := J hp
 clear hA hp
 go_enter Tryz.func68, Tryz.ntmps68
 go_wp2_with fail
 go_loopw [8] (fun i wr => ∃ k : Nat, k ≤ l.length ∧ i = .int .i64 k ∧ Hid (∀ (t : Nat) (b : G.Msg), t < k → l[t]? = some b → p b = false) ∧ Below w.heap.size w wr) (fun i _ => l.length - (intOf i).toNat)
 case atStart => exact ⟨0, by omega, rfl, fun t b ht => by omega, Below.refl _ _⟩
 obtain ⟨k, hk, rfl, hno, hb⟩ := hrel
 by_cases hlt : k < l.length
 ·obtain ⟨m, hm⟩ := G.get_some l hlt
  obtain ⟨b, off, rfl, hbl, hc⟩ := HA.u (by omega)
  have cl : ∀ (j : Nat) (u : Value), m.enc[j]? = some u → wr.cell? ⟨b, off + k * 3 + j, none⟩ = some u := fun j u hu => (hb.cell (p := ⟨b, off + k * 3 + j, none⟩) hbl).trans (hc k m j u hm hu)
  have c0 : wr.cell? ⟨b, off + k * 3, none⟩ = _ := cl 0 _ rfl
  have c1 := cl 1 _ rfl; have c2 := cl 2 _ rfl
  have i0 : (0 : Int) ≤ (k : Int) := by omega
  have i1 : (k : Int) < (l.length : Int) := by omega
  have HM := J hm
  clear hc cl hm
  go_wp2_with fail
  refine (HP.u m _ hb).mono ?_
  rintro e w1 ⟨rfl, hb1⟩
  have HB := J (hb.trans (hb1.mono hb.size))
  cases hpm : p m
  ·have HN := J (show ∀ (t : Nat) (b : G.Msg), t < k + 1 → l[t]? = some b → p b = false from fun t b ht hb => by
    rcases Nat.lt_succ_iff_lt_or_eq.mp ht with h | h
    ·exact hno.u t b h hb
    subst h; rw [HM.u] at hb; cases hb; exact hpm)
   clear hb hb1 hno hpm
   go_wp2_with fail
   go_roundw
   case rel => exact ⟨k + 1, by omega, by go_num, HN, HB.u⟩
   case measure => simp [intOf]; omega
  have HN := J (G.firstAt_some hno.u HM.u hpm)
  clear hb hb1 hno hpm
  go_wp2_with fail
  go_ret
  exact ⟨by rw [HN.u]; rfl, HB.u⟩
 have hke : k = l.length := by omega
 have HN := J (G.firstAt_none (p := p) (l := l) (fun t b hb => hno.u t b (by rw [hke]; exact G.get_lt hb) hb))
 have HB := J hb
 clear hb hno hke
 go_wp2_with fail
 go_ret
 exact ⟨by rw [HN.u]; rfl, HB.u⟩
theorem queFree (m : G.Msg) (W : World) : Calls Tryz.prog 69 #[.agg #[.int .i64 m.id, .int .i64 m.till, .bool m.taken]] W fun e W' => e = .returned (.bool (G.free m)) ∧ Below W.heap.size W W' := by
 go_enter Tryz.func69, Tryz.ntmps69
 go_wp2_with fail
 go_ret
 exact ⟨rfl, (Below.refl _ _).alloc (Nat.le_refl _) _⟩
theorem queIs (id : Int) (B : Nat) (m : G.Msg) (W : World) (h : W.cell? ⟨B, 0, none⟩ = some (.int .i64 id)) : Calls Tryz.prog 70 #[.agg #[.int .i64 m.id, .int .i64 m.till, .bool m.taken], .pointer (some ⟨B, 0, none⟩)] W fun e W' => e = .returned (.bool (G.isId id m)) ∧ Below W.heap.size W W' := by
 have hB := World.block_lt_of_cell? W _ h
 simp only at hB
 go_enter Tryz.func70, Tryz.ntmps70
 go_wp2_with fail
 go_ret
 exact ⟨rfl, (Below.refl _ _).alloc (Nat.le_refl _) _⟩
end Go.Proofs.YtidonhndeohdlaaGreat
namespace G
theorem take_desc {t : Int} : ∀ {r : List Mark}, r.Pairwise (fun a b => b.1 ≤ a.1) → r.takeWhile (fun m => decide (t < m.1)) = r.filter (fun m => decide (t < m.1))
 | [], _ => rfl
 | a :: r, h => by
  obtain ⟨h1, h2⟩ := List.pairwise_cons.1 h
  by_cases c : t < a.1
  ·rw [List.takeWhile_cons, List.filter_cons, if_pos (by simpa using c), if_pos (by simpa using c), take_desc h2]
  rw [List.takeWhile_cons, List.filter_cons, if_neg (by simpa using c), if_neg (by simpa using c)]
  symm
  rw [List.filter_eq_nil_iff]
  intro m hm
  have := h1 m hm
  simp; omega
theorem behind_filter {l : List Mark} (h : l.Pairwise (fun a b => a.1 ≤ b.1)) (t : Int) : behindL l t = l.filter (fun m => decide (t < m.1)) := by
 unfold behindL
 rw [take_desc (by rw [List.pairwise_reverse]; exact h), List.filter_reverse, List.reverse_reverse]
theorem minAll_le : ∀ (l : List Mark) (x : Int), minAll l x ≤ x ∧ ∀ m ∈ l, minAll l x ≤ m.2
 | [], x => ⟨Int.le_refl _, by simp⟩
 | a :: l, x => by
  obtain ⟨h1, h2⟩ := minAll_le l (min x a.2)
  have e : minAll (a :: l) x = minAll l (min x a.2) := rfl
  rw [e]
  refine ⟨by omega, fun m hm => ?_⟩
  rcases List.mem_cons.1 hm with c | c
  ·rw [c]; omega
  exact h2 m c
theorem maxAll_ge : ∀ (l : List Mark) (x : Int), x ≤ maxAll l x ∧ ∀ m ∈ l, m.2 ≤ maxAll l x
 | [], x => ⟨Int.le_refl _, by simp⟩
 | a :: l, x => by
  obtain ⟨h1, h2⟩ := maxAll_ge l (max x a.2)
  have e : maxAll (a :: l) x = maxAll l (max x a.2) := rfl
  rw [e]
  refine ⟨by omega, fun m hm => ?_⟩
  rcases List.mem_cons.1 hm with c | c
  ·rw [c]; omega
  exact h2 m c
end G
namespace Go.Proofs.YtidonhndeohdlaaGreat
open Go.RowKit
open Go.RowKit
def clipIf (b : Bool) (a : Int) : Int := if b then G.clipT a else a
def fixCells (a b c d : Int) (k : Nat) : Array Value := #[.int .i64 (clipIf (decide (0 < k)) a), .int .i64 (clipIf (decide (1 < k)) b), .int .i64 (clipIf (decide (2 < k)) c), .int .i64 (clipIf (decide (3 < k)) d)]
structure FixAt (w wr : World) (a b c d : Int) (k : Nat) : Prop where
 box : G.At wr w.heap.size 23 (fixCells a b c d k)
 res : G.At wr (w.heap.size + 1) 23 #[.int .i64 0, .int .i64 0, .int .i64 0, .int .i64 0]
 row : G.At wr (w.heap.size + 2) 162 #[.pointer (some ⟨w.heap.size, 0, none⟩), .pointer (some ⟨w.heap.size, 1, none⟩), .pointer (some ⟨w.heap.size, 2, none⟩), .pointer (some ⟨w.heap.size, 3, none⟩)]
 below : Below w.heap.size w wr
theorem FixAt.put {w wr : World} {a b c d : Int} {k : Nat} {x : Int} (h : FixAt w wr a b c d k) (hx : (fixCells a b c d k).setIfInBounds k (.int .i64 x) = fixCells a b c d (k + 1)) : FixAt w (wr.setCell ⟨w.heap.size, k, none⟩ (.int .i64 x)) a b c d (k + 1) := by
 have h1 := h.box.put k (.int .i64 x)
 rw [hx] at h1
 exact ⟨h1, h.res.other (p := ⟨w.heap.size, k, none⟩) (by show w.heap.size + 1 ≠ w.heap.size; omega) _, h.row.other (p := ⟨w.heap.size, k, none⟩) (by show w.heap.size + 2 ≠ w.heap.size; omega) _, h.below.setCell (p := ⟨w.heap.size, k, none⟩) (Nat.le_refl _) _⟩
theorem FixAt.same {w wr : World} {a b c d : Int} {k : Nat} (h : FixAt w wr a b c d k) (hx : fixCells a b c d k = fixCells a b c d (k + 1)) : FixAt w wr a b c d (k + 1) := ⟨hx ▸ h.box, h.res, h.row, h.below⟩
theorem calFix (a b c d : Int) (w : World) : Calls Tryz.prog 103 #[.agg #[.int .i64 a, .int .i64 b, .int .i64 c, .int .i64 d]] w fun e w' => e = .returned (.agg #[.int .i64 (G.clipT a), .int .i64 (G.clipT b), .int .i64 (G.clipT c), .int .i64 (G.clipT d)]) ∧ Below w.heap.size w w' := by
 have hbl : Below w.heap.size w (((w.alloc (.cells #[.int .i64 a, .int .i64 b, .int .i64 c, .int .i64 d] 23)).alloc (.cells #[.int .i64 0, .int .i64 0, .int .i64 0, .int .i64 0] 23)).alloc (.cells #[.pointer (some ⟨w.heap.size, 0, none⟩), .pointer (some ⟨w.heap.size, 1, none⟩), .pointer (some ⟨w.heap.size, 2, none⟩), .pointer (some ⟨w.heap.size, 3, none⟩)] 162)) := (((Below.refl _ _).alloc (Nat.le_refl _) _).alloc (by simp) _).alloc (by simp <;> omega) _
 have hr1 : G.At _ (w.alloc (.cells #[.int .i64 a, .int .i64 b, .int .i64 c, .int .i64 d] 23)).heap.size 23 #[.int .i64 0, .int .i64 0, .int .i64 0, .int .i64 0] := G.At.made (w.alloc (.cells #[.int .i64 a, .int .i64 b, .int .i64 c, .int .i64 d] 23)) _ _
 have hr2 : G.At _ ((w.alloc (.cells #[.int .i64 a, .int .i64 b, .int .i64 c, .int .i64 d] 23)).alloc (.cells #[.int .i64 0, .int .i64 0, .int .i64 0, .int .i64 0] 23)).heap.size 162 #[.pointer (some ⟨w.heap.size, 0, none⟩), .pointer (some ⟨w.heap.size, 1, none⟩), .pointer (some ⟨w.heap.size, 2, none⟩), .pointer (some ⟨w.heap.size, 3, none⟩)] := G.At.made _ _ _
 have z1 : (w.alloc (.cells #[.int .i64 a, .int .i64 b, .int .i64 c, .int .i64 d] 23)).heap.size = w.heap.size + 1 := by simp
 have z2 : ((w.alloc (.cells #[.int .i64 a, .int .i64 b, .int .i64 c, .int .i64 d] 23)).alloc (.cells #[.int .i64 0, .int .i64 0, .int .i64 0, .int .i64 0] 23)).heap.size = w.heap.size + 2 := by simp
 rw [z1] at hr1; rw [z2] at hr2
 have H0 := J (show FixAt w _ a b c d 0 from ⟨((G.At.made w 23 _).alloc (.cells #[.int .i64 0, .int .i64 0, .int .i64 0, .int .i64 0] 23)).alloc _, hr1.alloc _, hr2, hbl⟩)
 clear hbl hr1 hr2 z1 z2
 go_enter Tryz.func103, Tryz.ntmps103
 go_wp2_with fail
 go_loopw [11] (fun i wr => ∃ k : Nat, k ≤ 4 ∧ i = .int .i64 k ∧ Hid (FixAt w wr a b c d k)) (fun i _ => 4 - (intOf i).toNat)
 case atStart => exact ⟨0, by omega, rfl, H0⟩
 clear H0
 obtain ⟨k, hk, rfl, HF⟩ := hrel
 rcases (show k = 0 ∨ k = 1 ∨ k = 2 ∨ k = 3 ∨ k = 4 by omega) with rfl | rfl | rfl | rfl | rfl
 ·have hp := HF.u.row.here (i := 0) rfl
  have hc := HF.u.box.here (i := 0) rfl
  have hf := HF.u.box.soft 0
  change _ = some (Value.int .i64 a) at hc
  by_cases q1 : a < 0
  ·have HN := J (HF.u.put (x := 0) (by simp [fixCells, clipIf, G.clipT]; omega))
   go_wp2_with fail
   go_roundw
   case rel => exact ⟨1, by omega, by go_num, HN⟩
   case measure => simp [intOf]
  have q1' : 0 ≤ a := by omega
  by_cases q2 : 100000 < a
  ·have HN := J (HF.u.put (x := 100000) (by simp [fixCells, clipIf, G.clipT]; omega))
   clear q1
   go_wp2_with fail
   go_roundw
   case rel => exact ⟨1, by omega, by go_num, HN⟩
   case measure => simp [intOf]
  have q2' : a ≤ 100000 := by omega
  have HN := J (HF.u.same (by simp [fixCells, clipIf, G.clipT]; omega))
  clear q1 q2
  go_wp2_with fail
  go_roundw
  case rel => exact ⟨1, by omega, by go_num, HN⟩
  case measure => simp [intOf]
 ·have hp := HF.u.row.here (i := 1) rfl
  have hc := HF.u.box.here (i := 1) rfl
  have hf := HF.u.box.soft 1
  change _ = some (Value.int .i64 b) at hc
  by_cases q1 : b < 0
  ·have HN := J (HF.u.put (x := 0) (by simp [fixCells, clipIf, G.clipT]; omega))
   go_wp2_with fail
   go_roundw
   case rel => exact ⟨2, by omega, by go_num, HN⟩
   case measure => simp [intOf]
  have q1' : 0 ≤ b := by omega
  by_cases q2 : 100000 < b
  ·have HN := J (HF.u.put (x := 100000) (by simp [fixCells, clipIf, G.clipT]; omega))
   clear q1
   go_wp2_with fail
   go_roundw
   case rel => exact ⟨2, by omega, by go_num, HN⟩
   case measure => simp [intOf]
  have q2' : b ≤ 100000 := by omega
  have HN := J (HF.u.same (by simp [fixCells, clipIf, G.clipT]; omega))
  clear q1 q2
  go_wp2_with fail
  go_roundw
  case rel => exact ⟨2, by omega, by go_num, HN⟩
  case measure => simp [intOf]
 ·have hp := HF.u.row.here (i := 2) rfl
  have hc := HF.u.box.here (i := 2) rfl
  have hf := HF.u.box.soft 2
  change _ = some (Value.int .i64 c) at hc
  by_cases q1 : c < 0
  ·have HN := J (HF.u.put (x := 0) (by simp [fixCells, clipIf, G.clipT]; omega))
   go_wp2_with fail
   go_roundw
   case rel => exact ⟨3, by omega, by go_num, HN⟩
   case measure => simp [intOf]
  have q1' : 0 ≤ c := by omega
  by_cases q2 : 100000 < c
  ·have HN := J (HF.u.put (x := 100000) (by simp [fixCells, clipIf, G.clipT]; omega))
   clear q1
   go_wp2_with fail
   go_roundw
   case rel => exact ⟨3, by omega, by go_num, HN⟩
   case measure => simp [intOf]
  have q2' : c ≤ 100000 := by omega
  have HN := J (HF.u.same (by simp [fixCells, clipIf, G.clipT]; omega))
  clear q1 q2
  go_wp2_with fail
  go_roundw
  case rel => exact ⟨3, by omega, by go_num, HN⟩
  case measure => simp [intOf]
 ·have hp := HF.u.row.here (i := 3) rfl
  have hc := HF.u.box.here (i := 3) rfl
  have hf := HF.u.box.soft 3
  change _ = some (Value.int .i64 d) at hc
  by_cases q1 : d < 0
  ·have HN := J (HF.u.put (x := 0) (by simp [fixCells, clipIf, G.clipT]; omega))
   go_wp2_with fail
   go_roundw
   case rel => exact ⟨4, by omega, by go_num, HN⟩
   case measure => simp [intOf]
  have q1' : 0 ≤ d := by omega
  by_cases q2 : 100000 < d
  ·have HN := J (HF.u.put (x := 100000) (by simp [fixCells, clipIf, G.clipT]; omega))
   clear q1
   go_wp2_with fail
   go_roundw
   case rel => exact ⟨4, by omega, by go_num, HN⟩
   case measure => simp [intOf]
  have q2' : d ≤ 100000 := by omega
  have HN := J (HF.u.same (by simp [fixCells, clipIf, G.clipT]; omega))
  clear q1 q2
  go_wp2_with fail
  go_roundw
  case rel => exact ⟨4, by omega, by go_num, HN⟩
  case measure => simp [intOf]
 have c0 : wr.cell? ⟨w.heap.size, 0, none⟩ = some (.int .i64 (G.clipT a)) := HF.u.box.here (i := 0) rfl
 have c1 : wr.cell? ⟨w.heap.size, 1, none⟩ = some (.int .i64 (G.clipT b)) := HF.u.box.here (i := 1) rfl
 have c2 : wr.cell? ⟨w.heap.size, 2, none⟩ = some (.int .i64 (G.clipT c)) := HF.u.box.here (i := 2) rfl
 have c3 : wr.cell? ⟨w.heap.size, 3, none⟩ = some (.int .i64 (G.clipT d)) := HF.u.box.here (i := 3) rfl
 have r0 := HF.u.res.here (i := 0) rfl; have r1 := HF.u.res.here (i := 1) rfl; have r2 := HF.u.res.here (i := 2) rfl; have r3 := HF.u.res.here (i := 3) rfl
 have f0 := HF.u.res.soft 0; have f1 := HF.u.res.soft 1; have f2 := HF.u.res.soft 2; have f3 := HF.u.res.soft 3
 have HB := J HF.u.below
 have hbz := HF.u.res.inside
 have HR := J HF.u.res
 go_wp2_with fail
 have q3 := (((HR.u.put 0 (.int .i64 (G.clipT a))).put 1 (.int .i64 (G.clipT b))).put 2 (.int .i64 (G.clipT c))).put 3 (.int .i64 (G.clipT d))
 have d0 := q3.here (i := 0) rfl; have d1 := q3.here (i := 1) rfl; have d2 := q3.here (i := 2) rfl; have d3 := q3.here (i := 3) rfl
 refine bodyPost_ret (v := .agg #[.int .i64 (G.clipT a), .int .i64 (G.clipT b), .int .i64 (G.clipT c), .int .i64 (G.clipT d)]) (by simp [results, Tryz.results103, go_sem, d0, d1, d2, d3]) rfl ⟨rfl, ?_⟩
 exact (((HB.u.setCell (p := ⟨w.heap.size + 1, 0, none⟩) (by simp) _).setCell (p := ⟨w.heap.size + 1, 1, none⟩) (by simp) _).setCell (p := ⟨w.heap.size + 1, 2, none⟩) (by simp) _).setCell (p := ⟨w.heap.size + 1, 3, none⟩) (by simp) _
theorem fix4 (a b c d : Int) (w0 W : World) (h : Below w0.heap.size w0 W) : Calls Tryz.prog 103 #[.agg #[.int .i64 a, .int .i64 b, .int .i64 c, .int .i64 d]] W fun e w' => e = .returned (.agg #[.int .i64 (G.clipT a), .int .i64 (G.clipT b), .int .i64 (G.clipT c), .int .i64 (G.clipT d)]) ∧ Below w0.heap.size w0 w' ∧ (∀ b o, b < W.heap.size → w'.cell? ⟨b, o, none⟩ = W.cell? ⟨b, o, none⟩) :=
 (calFix a b c d W).mono fun _ _ ⟨he, hb⟩ => ⟨he, h.trans (hb.mono h.size), hb.cell_frozen.1⟩
theorem calNew (u d : G.Pace) (w : World) : Calls Tryz.prog 61 #[.agg #[.int .i64 u.win, .int .i64 u.pods, .int .i64 u.pct, .int .i64 u.per], .agg #[.int .i64 d.win, .int .i64 d.pods, .int .i64 d.pct, .int .i64 d.per]] w (NewStbPost 166 198 w (G.newStb u d)) := by
 have hA := (G.At.made w 23 #[.int .i64 u.win, .int .i64 u.pods, .int .i64 u.pct, .int .i64 u.per]).alloc (.cells #[.int .i64 d.win, .int .i64 d.pods, .int .i64 d.pct, .int .i64 d.per] 23)
 have hB := G.At.made (w.alloc (.cells #[.int .i64 u.win, .int .i64 u.pods, .int .i64 u.pct, .int .i64 u.per] 23)) 23 #[.int .i64 d.win, .int .i64 d.pods, .int .i64 d.pct, .int .i64 d.per]
 simp only [World.size_alloc] at hB
 have hb0 : Below w.heap.size w ((w.alloc (.cells #[.int .i64 u.win, .int .i64 u.pods, .int .i64 u.pct, .int .i64 u.per] 23)).alloc (.cells #[.int .i64 d.win, .int .i64 d.pods, .int .i64 d.pct, .int .i64 d.per] 23)) := ((Below.refl _ _).alloc (Nat.le_refl _) _).alloc (by simp) _
 have HA := J hA.drew; have HB := J hB.drew; have H0 := J hb0.drew
 clear hA hB hb0
 go_enter Tryz.func61, Tryz.ntmps61
 go_wp2_with fail
 have hb1 := H0.u
 go_region_with (go_at_call 103; refine (fix4 _ _ _ _ w _ (by assumption)).mono ?_; rintro e w1 ⟨rfl, hb1, hc1⟩)
 all_goals
  have HF := J (stb_made (T := 166) (TM := 198) (s := G.newStb u d) hb1 rfl rfl)
  clear hb1
  go_wp2_with fail
  go_ret
  exact HF.u
open Go.RowKit
theorem shift_rem (s k : Nat) : (((s : Int) / 2 ^ k) % 2 == 1) = s.testBit k := by
 have e : ((s : Int) / 2 ^ k) = ((s / 2 ^ k : Nat) : Int) := by simp
 rw [e, Nat.testBit_eq_decide_div_mod_eq, Bool.eq_iff_iff]; simp; omega
theorem shift_trem (s k : Nat) : ((((s : Int) / 2 ^ k)).tmod 2 == 1) = s.testBit k := by
 rw [Int.tmod_eq_emod_of_nonneg (Int.ediv_nonneg (by omega) (Int.le_of_lt (Int.pow_pos (by omega))))]
 exact shift_rem s k
theorem refHas (s : Nat) (n : Int) (w : World) (hs : Word s) : Calls Tryz.prog 102 #[.int .u64 (s : Int), .int .i64 n] w fun e w' => e = .returned (.bool (hasB s n)) ∧ w = w' := by
 by_cases h0 : 0 ≤ n ∧ n ≤ 63
 ·obtain ⟨h0, h1⟩ := h0
  obtain ⟨k, rfl⟩ := Int.eq_ofNat_of_zero_le h0
  have k1 : Hid (hasB s (k : Int) = s.testBit k) := by show _ = _; unfold hasB; simp; omega
  have hb := J (shift_rem s k); have hb2 := J (shift_trem s k)
  have s0 : (0 : Int) ≤ (s : Int) := by omega
  have s1 : (0 : Int) ≤ (s : Int) / 2 ^ k := Int.ediv_nonneg (by omega) (Int.le_of_lt (Int.pow_pos (by omega)))
  clear hs
  go_enter Tryz.func102, Tryz.ntmps102
  go_wp2_with fail
  refine (refIn_yes (k : Int) 0 63 _ h0 h1).mono ?_
  rintro e w' ⟨rfl, rfl⟩
  go_wp2_with fail
  go_ret
  refine ⟨?_, rfl⟩
  rw [k1.u]
  first | rw [← hb.u] | rw [← hb2.u]
  all_goals first | rfl | (simp; done)
 have k : hasB s n = false := by unfold hasB; simp; omega
 have HQ := J (show n < 0 ∨ 63 < n by omega)
 rw [k]
 clear hs h0
 go_enter Tryz.func102, Tryz.ntmps102
 go_wp2_with fail
 refine (refIn_no n 0 63 _ HQ.u).mono ?_
 rintro e w' ⟨rfl, rfl⟩
 go_wp2_with fail
 go_ret
 exact ⟨rfl, rfl⟩
theorem refHas' (s : Nat) (n : Int) (w : World) (hs : Word s) : Calls Tryz.prog 102 #[.int .u64 (s : Int), .int .i64 n] w fun e w' => e = .returned (.bool (hasB s n)) ∧ w' = w :=
 (refHas s n w hs).mono fun _ _ ⟨a, b⟩ => ⟨a, b.symm⟩
theorem made_at {w : World} {g : Nat} {t : TypeId} {cs : Array Value} (hg : g = w.heap.size) : G.At (w.alloc (.cells cs t)) g t cs := by subst hg; exact G.At.made w t cs
def SetsPost (c : Cr) (w0 : World) (e : Ending) (w' : World) : Prop := ∃ a b d, e = .returned (.tuple #[.slice (some ⟨a, 0, none⟩) 5 5, .slice (some ⟨b, 0, none⟩) 5 5, .slice (some ⟨d, 0, none⟩) 5 5]) ∧
 G.At w' a 57 #[.int .u64 (c.mi : Int), .int .u64 (c.h : Int), .int .u64 (c.d : Int), .int .u64 (c.mo : Int), .int .u64 (c.wk : Int)] ∧
 G.At w' b 160 #[.int .i64 0, .int .i64 59, .int .i64 0, .int .i64 23, .int .i64 1, .int .i64 31, .int .i64 1, .int .i64 12, .int .i64 0, .int .i64 6] ∧
 G.At w' d 4 #[.bool false, .bool false, .bool c.ad, .bool false, .bool c.aw] ∧ Below w0.heap.size w0 w'
theorem refSets (c : Cr) (w : World) : Calls Tryz.prog 101 #[.agg c.cells] w (SetsPost c w) := by
 obtain ⟨ci, ch, cd, cm, cw, ad, aw⟩ := c
 have HB := J ((Below.refl w.heap.size w).alloc (Nat.le_refl _) (.cells #[.int .u64 (ci : Int), .int .u64 (ch : Int), .int .u64 (cd : Int), .int .u64 (cm : Int), .int .u64 (cw : Int), .bool ad, .bool aw] 59))
 have hx := G.At.made w 59 #[.int .u64 (ci : Int), .int .u64 (ch : Int), .int .u64 (cd : Int), .int .u64 (cm : Int), .int .u64 (cw : Int), .bool ad, .bool aw]
 unfold Cr.cells
 go_enter Tryz.func101, Tryz.ntmps101
 go_upto_region 1 with fail
 have x0 := hx.here (i := 0) rfl; have x1 := hx.here (i := 1) rfl; have x2 := hx.here (i := 2) rfl; have x3 := hx.here (i := 3) rfl; have x4 := hx.here (i := 4) rfl; have x5 := hx.here (i := 5) rfl; have x6 := hx.here (i := 6) rfl
 have HX := J hx
 clear hx
 go_region_held3 (fun w' => w'.cell? ⟨w.heap.size, 0, none⟩ = some (.int .u64 (ci : Int)) ∧ w'.cell? ⟨w.heap.size, 1, none⟩ = some (.int .u64 (ch : Int)) ∧ w'.cell? ⟨w.heap.size, 2, none⟩ = some (.int .u64 (cd : Int)) ∧ w'.cell? ⟨w.heap.size, 3, none⟩ = some (.int .u64 (cm : Int)) ∧ w'.cell? ⟨w.heap.size, 4, none⟩ = some (.int .u64 (cw : Int)) ∧ w'.cell? ⟨w.heap.size, 5, none⟩ = some (.bool ad) ∧ w'.cell? ⟨w.heap.size, 6, none⟩ = some (.bool aw)) (first | exact ⟨x0, x1, x2, x3, x4, x5, x6⟩ | go_keep) (fail)
 all_goals
  go_wp2_with fail
  go_ret3
  refine ⟨_, _, _, rfl, ?_, ?_, ?_, ?_⟩
  iterate 3 first
   | exact G.At.drew (G.At.alloc (G.At.alloc (made_at rfl) _) _)
   | exact G.At.drew (G.At.alloc (made_at rfl) _)
   | exact G.At.drew (made_at rfl)
   | exact G.At.drew (G.At.alloc (G.At.alloc (made_at (by simp)) _) _)
   | exact G.At.drew (G.At.alloc (made_at (by simp)) _)
   | exact G.At.drew (made_at (by simp))
  exact Below.drew (Below.alloc (Below.alloc (Below.alloc HB.u HB.u.size _) (by simp; omega) _) (by simp; omega) _)
theorem refIn' (n lo hi : Int) (w : World) : Calls Tryz.prog 6 #[.int .i64 n, .int .i64 lo, .int .i64 hi] w fun e w' => e = .returned (.bool (inB n lo hi)) ∧ w' = w :=
 (refIn n lo hi w).mono fun _ _ ⟨a, b⟩ => ⟨a, b.symm⟩
end Go.Proofs.YtidonhndeohdlaaGreat
namespace G
def someU (s : Nat) : Nat → Bool
 | 0 => false
 | k + 1 => someU s k || s.testBit k
def allU (s lo hi : Nat) : Nat → Bool
 | 0 => true
 | k + 1 => allU s lo hi k && (s.testBit k || !(decide (lo ≤ k) && decide (k ≤ hi)))
theorem someU_iff (s k : Nat) : someU s k = true ↔ ∃ q, q < k ∧ s.testBit q = true := by
 induction k with
 | zero => exact Iff.intro (fun h => by cases h) (fun ⟨q, h, _⟩ => absurd h (Nat.not_lt_zero q))
 | succ k ih =>
  unfold someU
  rw [Bool.or_eq_true, ih]
  constructor
  ·rintro (⟨q, h1, h2⟩ | h)
   ·exact ⟨q, by omega, h2⟩
   exact ⟨k, by omega, h⟩
  rintro ⟨q, h1, h2⟩
  rcases Nat.lt_succ_iff_lt_or_eq.1 h1 with c | c
  ·exact .inl ⟨q, c, h2⟩
  exact .inr (c ▸ h2)
theorem allU_iff (s lo hi k : Nat) : allU s lo hi k = true ↔ ∀ q, q < k → lo ≤ q → q ≤ hi → s.testBit q = true := by
 induction k with
 | zero => exact ⟨fun _ q h => by omega, fun _ => rfl⟩
 | succ k ih =>
  unfold allU
  rw [Bool.and_eq_true, ih]
  constructor
  ·rintro ⟨h1, h2⟩ q hq a b
   rcases Nat.lt_succ_iff_lt_or_eq.1 hq with c | c
   ·exact h1 q c a b
   subst c; simpa [a, b] using h2
  intro h
  refine ⟨fun q hq => h q (by omega), ?_⟩
  by_cases hk : lo ≤ k ∧ k ≤ hi
  ·simp [h k (by omega) hk.1 hk.2]
  by_cases h1 : lo ≤ k
  ·have h2 : ¬ k ≤ hi := fun c => hk ⟨h1, c⟩
   simp [h2]
  simp [h1]
theorem bit_lt {s n : Nat} (hs : s < 18446744073709551616) (h : s.testBit n = true) : n < 64 := by
 rcases Nat.lt_or_ge n 64 with c | c
 ·exact c
 rw [Nat.testBit_lt_two_pow (Nat.lt_of_lt_of_le hs (by
  show 2 ^ 64 ≤ 2 ^ n
  exact Nat.pow_le_pow_right (by omega) c))] at h
 cases h
theorem field_bad {s : Nat} (hs : s < 18446744073709551616) {lo hi n : Nat} (h : lo ≤ hi) (h' : hi ≤ 62) {any : Bool} (hb : s.testBit n = true) (hn : (decide (lo ≤ n) && decide (n ≤ hi)) = false) : okField (s : Int) lo hi any = false := by
 rw [← Bool.not_eq_true, okField_iff s hs lo hi h h' any]
 rintro ⟨_, h2, _⟩
 have := h2 n hb
 simp [this.1, this.2] at hn
theorem field_is {s : Nat} (hs : s < 18446744073709551616) {lo hi : Nat} (h : lo ≤ hi) (h' : hi ≤ 62) {any : Bool} (hno : ∀ q, q < 64 → s.testBit q = true → (decide (lo ≤ q) && decide (q ≤ hi)) = true) : okField (s : Int) lo hi any = (someU s 64 && (!any || allU s lo hi 64)) := by
 rw [Bool.eq_iff_iff, okField_iff s hs lo hi h h' any, Bool.and_eq_true, Bool.or_eq_true, someU_iff, allU_iff]
 have hz : s ≠ 0 ↔ ∃ q, q < 64 ∧ s.testBit q = true := by
  constructor
  ·intro h0
   obtain ⟨i, hi⟩ := Nat.exists_testBit_of_ne_zero h0
   exact ⟨i, bit_lt hs hi, hi⟩
  rintro ⟨q, _, h2⟩ rfl
  simp at h2
 constructor
 ·rintro ⟨h1, h2, h3⟩
  refine ⟨hz.1 h1, ?_⟩
  cases any with
  | false => exact .inl rfl
  | true => exact .inr fun q _ a b => h3 rfl q a b
 rintro ⟨h1, h2⟩
 refine ⟨hz.2 h1, fun n hn => by simpa using hno n (bit_lt hs hn) hn, fun ha n a b => ?_⟩
 rcases h2 with h2 | h2
 ·rw [ha] at h2; cases h2
 exact h2 n (by omega) a b
end G
namespace Go.Proofs.YtidonhndeohdlaaGreat
open Go.RowKit
theorem hasB_nat (s k : Nat) (hk : k < 64) : hasB s (k : Int) = s.testBit k := by unfold hasB; simp; omega
theorem inB_nat (k lo hi : Nat) : inB (k : Int) lo hi = (decide (lo ≤ k) && decide (k ≤ hi)) := by
 unfold inB
 have h1 : decide ((lo : Int) ≤ (k : Int)) = decide (lo ≤ k) := decide_eq_decide.2 (by omega)
 have h2 : decide ((k : Int) ≤ (hi : Int)) = decide (k ≤ hi) := decide_eq_decide.2 (by omega)
 rw [h1, h2]
theorem sets_row {c : Cr} (hf : c.fits) {w : World} {a b d : Nat} (ha : G.At w a 57 #[.int .u64 (c.mi : Int), .int .u64 (c.h : Int), .int .u64 (c.d : Int), .int .u64 (c.mo : Int), .int .u64 (c.wk : Int)])
  (hb : G.At w b 160 #[.int .i64 0, .int .i64 59, .int .i64 0, .int .i64 23, .int .i64 1, .int .i64 31, .int .i64 1, .int .i64 12, .int .i64 0, .int .i64 6])
  (hd : G.At w d 4 #[.bool false, .bool false, .bool c.ad, .bool false, .bool c.aw]) (j : Nat) (hj : j < 5) :
  ∃ (s lo hi : Nat) (any : Bool), lo ≤ hi ∧ hi ≤ 60 ∧ Word s ∧ c.okAt j = G.okField s lo hi any ∧
   w.cell? ⟨a, j, none⟩ = some (.int .u64 (s : Int)) ∧ w.cell? ⟨b, j * 2, none⟩ = some (.int .i64 lo) ∧ w.cell? ⟨b, j * 2 + 1, none⟩ = some (.int .i64 hi) ∧ w.cell? ⟨d, j, none⟩ = some (.bool any) := by
 obtain ⟨f0, f1, f2, f3, f4⟩ := hf
 match j, hj with
 | 0, _ => exact ⟨c.mi, 0, 59, false, by omega, by omega, f0, rfl, ha.here rfl, hb.here rfl, hb.here rfl, hd.here rfl⟩
 | 1, _ => exact ⟨c.h, 0, 23, false, by omega, by omega, f1, rfl, ha.here rfl, hb.here rfl, hb.here rfl, hd.here rfl⟩
 | 2, _ => exact ⟨c.d, 1, 31, c.ad, by omega, by omega, f2, rfl, ha.here rfl, hb.here rfl, hb.here rfl, hd.here rfl⟩
 | 3, _ => exact ⟨c.mo, 1, 12, false, by omega, by omega, f3, rfl, ha.here rfl, hb.here rfl, hb.here rfl, hd.here rfl⟩
 | 4, _ => exact ⟨c.wk, 0, 6, c.aw, by omega, by omega, f4, rfl, ha.here rfl, hb.here rfl, hb.here rfl, hd.here rfl⟩
open Go.RowKit
theorem refCron (c : Cr) (hf : c.fits) (w : World) : Calls Tryz.prog 60 #[.agg c.cells] w fun e w' => e = .returned (.int .i64 c.err) ∧ Below w.heap.size w w' := by
 have HB := J ((Below.refl w.heap.size w).alloc (Nat.le_refl _) (.cells c.cells 59))
 have HX := J (G.At.made w 59 c.cells)
 have HS := J (fun (W : World) => refSets c W)
 have HF := J hf
 clear hf
 obtain ⟨C, hC⟩ : ∃ C, Hid (c.cells = C) := ⟨_, J rfl⟩
 have hCl : ∃ v0 v1 v2 v3 v4 v5 v6, C = #[v0, v1, v2, v3, v4, v5, v6] := ⟨_, _, _, _, _, _, _, hC.u.symm⟩
 rw [hC.u] at HB HX HS ⊢
 obtain ⟨v0, v1, v2, v3, v4, v5, v6, rfl⟩ := hCl
 go_enter Tryz.func60, Tryz.ntmps60
 go_wp2_with fail
 refine (HS.u _).mono ?_
 rintro e w1 ⟨a, b, d, rfl, ha, hb, hd, hw⟩
 have HB1 := J (HB.u.trans (hw.mono HB.u.size))
 have HA := J ha; have HL := J hb; have HD := J hd
 clear ha hb hd hw HS HX HB hC
 go_wp2_with fail
 go_loopw [6] (fun i wr => ∃ j : Nat, j ≤ 5 ∧ i = .int .i64 j ∧ Hid (∀ k, k < j → c.okAt k = true) ∧ Hid (Below w1.heap.size w1 wr)) (fun i _ => 5 - (intOf i).toNat)
 case atStart => exact ⟨0, by omega, rfl, J (fun k hk => by omega), J (Below.refl _ _)⟩
 obtain ⟨j, hj, rfl, HO, HBr⟩ := hrel
 by_cases hlt : j < 5
 ·obtain ⟨s, lo, hi, any, l0, l1, l2, heq, q0, q1, q2, q3⟩ := sets_row HF.u (HA.u.below HBr.u HA.u.inside) (HL.u.below HBr.u HL.u.inside) (HD.u.below HBr.u HD.u.inside) j hlt
  have hj0 : (0 : Int) ≤ (j : Int) := by omega
  have hj1 : (j : Int) < 5 := by omega
  have HE := J heq; have HW : Hid (Word s) := J l2
  have HBad := J (fun (n : Nat) (hb : s.testBit n = true) (hn : (decide (lo ≤ n) && decide (n ≤ hi)) = false) => Cr.err_no (Cr.not_ok j hlt (heq.trans (G.field_bad l2 l0 (by omega) (any := any) hb hn))))
  have HIs := J (fun hno => G.field_is (s := s) l2 l0 (show hi ≤ 62 by omega) (any := any) hno)
  have Q0 := J q0; have Q1 := J q1; have Q2 := J q2; have Q3 := J q3
  clear heq l0 l1 l2 q0 q1 q2 q3
  have IA := J (Nat.lt_of_lt_of_le HA.u.inside HBr.u.size)
  have IL := J (Nat.lt_of_lt_of_le HL.u.inside HBr.u.size)
  have ID := J (Nat.lt_of_lt_of_le HD.u.inside HBr.u.size)
  rename World => W0
  go_wp2_with fail
  go_loopw [7, 8, 9] (fun x y n wr => ∃ k : Nat, k ≤ 64 ∧ n = .int .i64 k ∧ x = .bool (G.someU s k) ∧ y = .bool (G.allU s lo hi k) ∧ Hid (∀ q, q < k → s.testBit q = true → (decide (lo ≤ q) && decide (q ≤ hi)) = true) ∧ Hid (Below W0.heap.size W0 wr)) (fun _ _ n _ => 64 - (intOf n).toNat)
  case atStart => exact ⟨0, by omega, rfl, rfl, rfl, J (fun q hq => by omega), J (Below.refl _ _)⟩
  obtain ⟨k, hk, rfl, rfl, rfl, HNo, HBq⟩ := hrel
  have q0 := (HBq.u.cell (p := ⟨a, j, none⟩) IA.u).trans Q0.u
  have q1 := (HBq.u.cell (p := ⟨b, j * 2, none⟩) IL.u).trans Q1.u
  have q2 := (HBq.u.cell (p := ⟨b, j * 2 + 1, none⟩) IL.u).trans Q2.u
  have q3 := (HBq.u.cell (p := ⟨d, j, none⟩) ID.u).trans Q3.u
  by_cases hk2 : k < 64
  ·obtain ⟨tb, htb⟩ : ∃ tb, s.testBit k = tb := ⟨_, rfl⟩
   obtain ⟨ib, hib⟩ : ∃ ib, (decide (lo ≤ k) && decide (k ≤ hi)) = ib := ⟨_, rfl⟩
   obtain ⟨sv, hsv⟩ : ∃ sv, G.someU s k = sv := ⟨_, rfl⟩
   obtain ⟨av, hav⟩ : ∃ av, G.allU s lo hi k = av := ⟨_, rfl⟩
   have HIn := J (show ∀ (W : World), Calls Tryz.prog 6 #[.int .i64 (k : Int), .int .i64 (lo : Int), .int .i64 (hi : Int)] W fun e w' => e = .returned (.bool ib) ∧ w' = W from fun W => by rw [← hib, ← inB_nat]; exact refIn' _ _ _ _)
   have HHas := J (show ∀ (W : World), Calls Tryz.prog 102 #[.int .u64 (s : Int), .int .i64 (k : Int)] W fun e w' => e = .returned (.bool tb) ∧ W = w' from fun W => by rw [← htb, ← hasB_nat s k hk2]; exact refHas s k W HW.u)
   have HS1 := J (show G.someU s (k + 1) = (sv || tb) by rw [← hsv, ← htb]; rfl)
   have HA1 := J (show G.allU s lo hi (k + 1) = (av && (tb || !ib)) by rw [← hav, ← htb, ← hib]; rfl)
   have HB2 := J (fun (h1 : tb = true) (h2 : ib = false) => HBad.u k (htb.trans h1) (hib.trans h2))
   have HN2 := J (fun (h : tb = true → ib = true) => (show ∀ q, q < k + 1 → s.testBit q = true → (decide (lo ≤ q) && decide (q ≤ hi)) = true from fun q hq hb => by
    rcases Nat.lt_succ_iff_lt_or_eq.1 hq with c | c
    ·exact HNo.u q c hb
    subst c; rw [htb] at hb; rw [hib]; exact h hb))
   rw [hsv, hav]
   have k0 : (0 : Int) ≤ (k : Int) := by omega
   have k1 : (k : Int) < 64 := by omega
   have HK := J hk2
   clear htb hib hsv hav hk hk2 hj hlt
   go_wp2_with fail
   go_quiet ((go_at_call 6; exact Calls.quiet_of_same (HIn.u _)))
   go_wp2_with fail
   refine (HHas.u _).mono ?_
   rintro e w2 ⟨rfl, rfl⟩
   have HBd := J (fun n => below_drewN HBq.u n)
   cases tb
   case true =>
    cases ib
    case false =>
     have HFin := J (HB2.u rfl rfl)
     go_wp2_with fail
     go_ret
     exact ⟨ret_int HFin.u.symm, HB1.u.trans ((HBr.u.trans ((HBd.u _).mono HBr.u.size)).mono HB1.u.size)⟩
    have HNn := J (HN2.u (fun _ => rfl))
    cases sv <;> cases av
    all_goals
     go_wp2_with (first | (go_at_call 102; refine (HHas.u _).mono ?_; rintro e w2 ⟨rfl, rfl⟩))
     go_roundw
     case rel => exact ⟨k + 1, by have := HK.u; omega, by go_num, by rw [HS1.u] <;> rfl, by rw [HA1.u] <;> rfl, HNn, J (HBd.u _)⟩
     case measure => have := HK.u; simp [intOf]; omega
   have HNn := J (HN2.u (fun h => by cases h))
   cases ib <;> cases sv <;> cases av
   all_goals
    go_wp2_with (first | (go_at_call 102; refine (HHas.u _).mono ?_; rintro e w2 ⟨rfl, rfl⟩))
    go_roundw
    case rel => exact ⟨k + 1, by have := HK.u; omega, by go_num, by rw [HS1.u] <;> rfl, by rw [HA1.u] <;> rfl, HNn, J (HBd.u _)⟩
    case measure => have := HK.u; simp [intOf]; omega
  have hk3 : k = 64 := by omega
  subst hk3
  have HV := J (HE.u.trans (HIs.u HNo.u))
  have HBd := J (HBr.u.trans (HBq.u.mono HBr.u.size))
  have HYes := J (fun (h : c.okAt j = true) => (show ∀ k, k < j + 1 → c.okAt k = true from fun k hk => by
   rcases Nat.lt_succ_iff_lt_or_eq.1 hk with e | e
   ·exact HO.u k e
   rw [e]; exact h))
  have HNot := J (fun (h : c.okAt j = false) => Cr.err_no (Cr.not_ok j hlt h))
  generalize G.someU s 64 = sv at HV ⊢
  generalize G.allU s lo hi 64 = av at HV ⊢
  have HJ := J hlt
  clear hk hk2 hj hlt
  cases sv
  case false =>
   have HFin := J (HNot.u (HV.u.trans rfl))
   go_wp2_with fail
   go_ret
   exact ⟨ret_int HFin.u.symm, HB1.u.trans (HBd.u.mono HB1.u.size)⟩
  cases any
  case false =>
   have HFin := J (HYes.u (HV.u.trans rfl))
   go_wp2_with fail
   go_roundw
   case rel => exact ⟨j + 1, by have := HJ.u; omega, by go_num, HFin, HBd⟩
   case measure => have := HJ.u; simp [intOf]; omega
  cases av
  case false =>
   have HFin := J (HNot.u (HV.u.trans rfl))
   go_wp2_with fail
   go_ret
   exact ⟨ret_int HFin.u.symm, HB1.u.trans (HBd.u.mono HB1.u.size)⟩
  have HFin := J (HYes.u (HV.u.trans rfl))
  go_wp2_with fail
  go_roundw
  case rel => exact ⟨j + 1, by have := HJ.u; omega, by go_num, HFin, HBd⟩
  case measure => have := HJ.u; simp [intOf]; omega
 have hj5 : j = 5 := by omega
 subst hj5
 have HFin := J (Cr.err_yes (Cr.ok_of HO.u))
 clear hj hlt
 go_wp2_with fail
 go_ret
 exact ⟨ret_int HFin.u.symm, HB1.u.trans (HBr.u.mono HB1.u.size)⟩
open Go.RowKit
theorem refMatch (c : Cr) (hf : c.fits) (y mo d h mi s wk : Int) (w : World) : Calls Tryz.prog 168 #[.agg c.cells, civ y mo d h mi s wk] w fun e w' => e = .returned (.bool (c.fit mo d h mi wk)) ∧ Below w.heap.size w w' := by
 obtain ⟨ci, ch, cd, cm, cw, ad, aw⟩ := c
 obtain ⟨f0, f1, f2, f3, f4⟩ := hf
 have F0 : Word ci := f0; have F1 : Word ch := f1; have F2 : Word cd := f2; have F3 : Word cm := f3; have F4 : Word cw := f4
 clear f0 f1 f2 f3 f4
 have HV := J (show Cr.fit ⟨ci, ch, cd, cm, cw, ad, aw⟩ mo d h mi wk = (hasB cm mo && (if ad || aw then hasB cd d && hasB cw wk else hasB cd d || hasB cw wk) && hasB ch h && hasB ci mi) from rfl)
 have H0 := J (fun (W : World) => refHas ci mi W F0); have H1 := J (fun (W : World) => refHas ch h W F1); have H3 := J (fun (W : World) => refHas cm mo W F3)
 clear F0 F1 F3
 generalize Cr.fit ⟨ci, ch, cd, cm, cw, ad, aw⟩ mo d h mi wk = R at HV ⊢
 generalize hasB ci mi = b0 at HV H0; generalize hasB ch h = b1 at HV H1; generalize hasB cm mo = b3 at HV H3
 unfold Cr.cells civ
 have HBd := J (((Below.refl w.heap.size w).alloc (Nat.le_refl _) (.cells #[.int .u64 (ci : Int), .int .u64 (ch : Int), .int .u64 (cd : Int), .int .u64 (cm : Int), .int .u64 (cw : Int), .bool ad, .bool aw] 59)).alloc (by simp) (.cells #[.int .i64 y, .int .i64 mo, .int .i64 d, .int .i64 h, .int .i64 mi, .int .i64 s, .int .i64 wk] 192))
 have HX := J ((G.At.made w 59 #[.int .u64 (ci : Int), .int .u64 (ch : Int), .int .u64 (cd : Int), .int .u64 (cm : Int), .int .u64 (cw : Int), .bool ad, .bool aw]).alloc (.cells #[.int .i64 y, .int .i64 mo, .int .i64 d, .int .i64 h, .int .i64 mi, .int .i64 s, .int .i64 wk] 192))
 have ht := G.At.made (w.alloc (.cells #[.int .u64 (ci : Int), .int .u64 (ch : Int), .int .u64 (cd : Int), .int .u64 (cm : Int), .int .u64 (cw : Int), .bool ad, .bool aw] 59)) 192 #[.int .i64 y, .int .i64 mo, .int .i64 d, .int .i64 h, .int .i64 mi, .int .i64 s, .int .i64 wk]
 simp only [World.size_alloc] at ht
 have HT := J ht
 clear ht
 go_enter Tryz.func168, Tryz.ntmps168
 go_upto_region 1 with fail
 generalize (w.alloc (.cells #[.int .u64 (ci : Int), .int .u64 (ch : Int), .int .u64 (cd : Int), .int .u64 (cm : Int), .int .u64 (cw : Int), .bool ad, .bool aw] 59)).alloc (.cells #[.int .i64 y, .int .i64 mo, .int .i64 d, .int .i64 h, .int .i64 mi, .int .i64 s, .int .i64 wk] 192) = W at HBd HX HT ⊢
 have x0 := HX.u.here (i := 0) rfl; have x1 := HX.u.here (i := 1) rfl; have x2 := HX.u.here (i := 2) rfl; have x3 := HX.u.here (i := 3) rfl; have x4 := HX.u.here (i := 4) rfl; have x5 := HX.u.here (i := 5) rfl; have x6 := HX.u.here (i := 6) rfl
 have t0 := HT.u.here (i := 0) rfl; have t1 := HT.u.here (i := 1) rfl; have t2 := HT.u.here (i := 2) rfl; have t3 := HT.u.here (i := 3) rfl; have t4 := HT.u.here (i := 4) rfl; have t5 := HT.u.here (i := 5) rfl; have t6 := HT.u.here (i := 6) rfl
 go_quiet ((go_at_call 102; exact Calls.quiet_of_same (refHas' _ _ _ (by assumption))))
 clear F2 F4
 generalize hasB cd d = b2 at HV ⊢
 generalize hasB cw wk = b4 at HV ⊢
 rename Nat => nq
 clear x0 x1 x2 x3 x4 x5 x6 t0 t1 t2 t3 t4 t5 t6
 have HBd := J (below_drewN HBd.u nq)
 have HX := J (HX.u.drewN nq)
 have HT := J (HT.u.drewN nq)
 generalize W.drewN nq = W2 at HBd HX HT ⊢
 have x0 := HX.u.here (i := 0) rfl; have x1 := HX.u.here (i := 1) rfl; have x2 := HX.u.here (i := 2) rfl; have x3 := HX.u.here (i := 3) rfl; have x4 := HX.u.here (i := 4) rfl; have x5 := HX.u.here (i := 5) rfl; have x6 := HX.u.here (i := 6) rfl
 have t0 := HT.u.here (i := 0) rfl; have t1 := HT.u.here (i := 1) rfl; have t2 := HT.u.here (i := 2) rfl; have t3 := HT.u.here (i := 3) rfl; have t4 := HT.u.here (i := 4) rfl; have t5 := HT.u.here (i := 5) rfl; have t6 := HT.u.here (i := 6) rfl
 cases ad <;> cases aw <;> cases b2 <;> cases b4
 case false.false.false.false | false.true.false.false | false.true.false.true | false.true.true.false | true.false.false.false | true.false.false.true | true.false.true.false | true.true.false.false | true.true.false.true | true.true.true.false =>
  as_aux_lemma =>
  go_wp2_with fail
  go_ret
  exact ⟨by rw [HV.u]; cases b3 <;> rfl, HBd.u⟩
 case false.false.false.true | false.false.true.false | false.false.true.true | false.true.true.true | true.false.true.true | true.true.true.true =>
  as_aux_lemma =>
  go_wp2_with fail
  refine (H0.u _).mono ?_
  rintro e w2 ⟨rfl, rfl⟩
  cases b0
  ·go_wp2_with fail
   go_ret
   exact ⟨by rw [HV.u]; cases b3 <;> cases b1 <;> rfl, HBd.u⟩
  go_wp2_with fail
  refine (H1.u _).mono ?_
  rintro e w2 ⟨rfl, rfl⟩
  cases b1
  ·go_wp2_with fail
   go_ret
   exact ⟨by rw [HV.u]; cases b3 <;> rfl, HBd.u⟩
  go_wp2_with fail
  refine (H3.u _).mono ?_
  rintro e w2 ⟨rfl, rfl⟩
  go_wp2_with fail
  go_ret
  exact ⟨by rw [HV.u]; cases b3 <;> rfl, HBd.u⟩
open Go.RowKit
theorem spanE_ok {a b : Cr} (h : spanE a b = 0) : a.ok = true ∧ b.ok = true := by
 unfold spanE Cr.err at h
 cases ha : a.ok <;> cases hb : b.ok <;> rw [ha, hb] at h <;> first | exact ⟨rfl, rfl⟩ | (simp at h)
theorem spanInE_is {a b : Cr} {sec shift : Int} (h : spanE a b = 0) (ht : okTime sec shift) : spanInE a b sec shift = 0 := by
 unfold spanInE; rw [if_pos h, if_pos ht]
end Go.Proofs.YtidonhndeohdlaaGreat
