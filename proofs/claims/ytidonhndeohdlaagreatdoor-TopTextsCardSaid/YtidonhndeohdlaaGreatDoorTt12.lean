/- Of the texts QueD, OpenCron, OpenSpan: what this claim reaches. -/
import Derived.Lib.SliceRun
import Derived.Handy
import Derived.Test.YtidonhndeohdlaaGreatDoorRows
import Derived.Test.YtidonhndeohdlaaGreatDoorTtQueC
import Derived.Test.YtidonhndeohdlaaGreatDoorTt01
import Derived.Test.YtidonhndeohdlaaGreatDoorTtCronK
import Derived.Test.YtidonhndeohdlaaGreatDoorTt11
set_option linter.unusedVariables false
set_option linter.unusedSimpArgs false
namespace Go.Proofs.YtidonhndeohdlaaGreatDoor
open Go.RowKit
theorem que_info : (Tryz.prog.info? 143).map (fun i => (i.zero, i.size, i.bytes)) = some (some (.agg #[.int .i64 0, .int .i64 0, .bool false]), 3, 24) := by kernel_rfl
def que_zero : List Value := [.int .i64 0, .int .i64 0, .bool false]
theorem que_clear (w : World) (ty : TypeId) (b o c : Nat) (hc : ∀ j, j < 3 → (w.cell? ⟨b, o + j, none⟩).isSome = true) (hf : ∀ j, j < 3 → w.frozen? ⟨b, o + j, none⟩ = false) :
    (Builtin.clear_ #[132] ty #[.slice (some ⟨b, o, none⟩) 1 c]).run Tryz.prog w = .ok (.tuple #[]) (w.setCells b o que_zero) := by
  have hv : ∀ w, (zeroValue 143).run Tryz.prog w = .ok (.agg #[.int .i64 0, .int .i64 0, .bool false]) w := fun w => by kernel_rfl
  have hst := run_storeCells_cells (P := Tryz.prog) b o que_zero 0 w (by simpa [que_zero] using hc) (by simpa [que_zero] using hf) (by simp [que_zero, Value.oneCell'])
  simp only [Nat.add_zero] at hst
  have hzc : (Builtin.zeroCells (Value.agg #[.int .i64 0, .int .i64 0, .bool false]).cells 1).toList = que_zero := by kernel_rfl
  simp [Builtin.clear_, run_underlying Tryz.underlying132, hv, hzc, hst]
set_option maxRecDepth 100000 in
set_option maxHeartbeats 4000000 in
theorem que_delete (S : Nat → Prop) (w : World) (b cap n i : Nat) (xs : List Value) (h : Tide.OwnRow S w 143 3 (.slice (some ⟨b, 0, none⟩) n cap) n xs) (hi : i < n) (h1 : ∀ u ∈ xs, u.oneCell' = true) :
    Calls Tryz.prog 70 #[.slice (some ⟨b, 0, none⟩) n cap, .int .i64 i, .int .i64 ((i : Int) + 1)] w fun e w' => e = .returned (.slice (some ⟨b, 0, none⟩) (n - 1) cap) ∧
      Tide.OwnRow S w' 143 3 (.slice (some ⟨b, 0, none⟩) (n - 1) cap) (n - 1) (xs.take (i * 3) ++ xs.drop ((i + 1) * 3)) ∧ Tide.Chg (fun x => x = b) w w' := by
  obtain ⟨b', cap', e, hS, hcap, hmax, hrow⟩ := h.form (by omega)
  cases e
  have hlen := h.1
  obtain ⟨news, hnews⟩ : ∃ news, news = xs.drop ((i + 1) * 3) := ⟨_, rfl⟩
  have hnl : news.length = (n - (i + 1)) * 3 := by rw [hnews, List.length_drop, hlen]; omega
  obtain ⟨A, hA, hsrc⟩ : ∃ A : Addr, (if cap = i + 1 then some (⟨b, 0, none⟩ : Addr) else some ⟨b, (i + 1) * 3, none⟩) = some A ∧ Hid (∀ t u, news[t]? = some u → w.drew.cell? (A.add t) = some u) := by
    by_cases hc : cap = i + 1
    · refine ⟨⟨b, 0, none⟩, by simp [hc], fun t u hu => ?_⟩
      have h0 : news.length = 0 := by rw [hnl]; omega
      rw [List.length_eq_zero_iff.1 h0] at hu
      simp at hu
    · refine ⟨⟨b, (i + 1) * 3, none⟩, by simp [hc], fun t u hu => ?_⟩
      rw [hnews, List.getElem?_drop] at hu
      rw [Addr.add_lit]
      exact hrow.cell hu
  have s2 : Hid (∀ u ∈ news, u.oneCell' = true) := fun u hu => h1 u (List.mem_of_mem_drop (by rw [hnews] at hu; exact hu))
  have s3 : Hid (∀ t, t < news.length → (w.drew.cell? ⟨b, 0 + i * 3 + t, none⟩).isSome = true ∧ w.drew.frozen? ⟨b, 0 + i * 3 + t, none⟩ = false) := by
    intro t ht
    rw [hnl] at ht
    have hlt : 0 + i * 3 + t < xs.length := by rw [hlen]; omega
    exact ⟨by show (w.cell? _).isSome = true; rw [hrow.cell (List.getElem?_eq_getElem hlt)]; rfl, hrow.soft _⟩
  obtain ⟨W1, hW1⟩ : ∃ W1, W1 = w.drew.setCells b (0 + i * 3) news := ⟨_, rfl⟩
  have hR1 : Tide.RowIn W1 b 143 (cap * 3) (xs.take (0 + i * 3) ++ news ++ xs.drop (0 + i * 3 + news.length)) := by
    rw [hW1]; exact Tide.RowIn.puts news _ hrow.drew (by rw [hlen, hnl]; omega)
  have hch1 : Tide.Chg (fun x => x = b) w W1 := by rw [hW1]; exact Tide.Chg.puts (S := fun x => x = b) (.inl rfl) _ _ (Tide.Chg.refl _ w).drew
  have hl1 : (xs.take (0 + i * 3) ++ news ++ xs.drop (0 + i * 3 + news.length)).length = n * 3 := by simp [hnl, hlen]; omega
  have hcl : ∀ ty c, (Builtin.clear_ #[132] ty #[.slice (some ⟨b, (i + (n - (i + 1))) * 3, none⟩) (n - (i + (n - (i + 1)))) c]).run Tryz.prog W1 = .ok (.tuple #[]) (W1.setCells b ((n - 1) * 3) que_zero) := by
    rw [show i + (n - (i + 1)) = n - 1 by omega, show n - (n - 1) = 1 by omega]
    exact fun ty c => que_clear W1 ty b _ _ (fun t ht => by
      rw [hR1.cell (List.getElem?_eq_getElem (show (n - 1) * 3 + t < _ by rw [hl1]; omega))]; rfl) (fun t ht => hR1.soft _)
  have hfin : Tide.OwnRow S (W1.setCells b ((n - 1) * 3) que_zero) 143 3 (.slice (some ⟨b, 0, none⟩) (n - 1) cap) (n - 1) (xs.take (i * 3) ++ xs.drop ((i + 1) * 3)) := by
    have hR2 := (Tide.RowIn.puts que_zero ((n - 1) * 3) hR1 (by rw [hl1]; simp [que_zero]; omega)).fewer ((n - 1) * 3)
    have e : (List.take ((n - 1) * 3) (xs.take (0 + i * 3) ++ news ++ xs.drop (0 + i * 3 + news.length)) ++ que_zero ++ List.drop ((n - 1) * 3 + que_zero.length) (xs.take (0 + i * 3) ++ news ++ xs.drop (0 + i * 3 + news.length))).take ((n - 1) * 3) = xs.take (i * 3) ++ xs.drop ((i + 1) * 3) := by
      have e1 : (xs.take (0 + i * 3) ++ news).length = (n - 1) * 3 := by simp [hnl, hlen]; omega
      rw [List.append_assoc, List.take_append_of_le_length (by rw [List.length_take, hl1]; omega), List.take_take, Nat.min_self, List.take_append_of_le_length (by omega), List.take_of_length_le (by omega), Nat.zero_add, hnews]
    rw [e] at hR2
    refine ⟨by simp [hlen]; omega, .inr ⟨b, cap, rfl, hS, by omega, hmax, hR2⟩⟩
  have hch2 : Tide.Chg (fun x => x = b) w (W1.setCells b ((n - 1) * 3) que_zero) := Tide.Chg.puts (S := fun x => x = b) (.inl rfl) _ _ hch1
  have HF := Lib.hid hfin; have HC := Lib.hid hch2; have HW := Lib.hid hW1
  have q1 : i ≤ cap := by omega
  have q2 : i + 1 ≤ cap := by omega
  have q3 : (i : Int) + 1 ≤ (n : Int) := by omega
  have q6 : (0 : Int) ≤ (i : Int) + 1 := by omega
  have q4 : n ≤ cap := hcap
  have q5 : cap ≤ 9223372036854775807 := hmax
  have hsl := Lib.hid hnl
  have hn1 := Lib.hid (show i + (n - (i + 1)) = n - 1 by omega)
  have HA := Lib.hid hA
  obtain ⟨i0, hi0, hz0, hz1, hz2⟩ := info_parts que_info
  clear h hrow hlen hnews hnl hR1 hl1 hch1 hch2 hfin hW1 h1 hcap hmax
  go_enter Tryz.func70, Tryz.ntmps70
  go_wp2_with fail
  clear hA
  go_region_law (refine step_append_room (by rfl) (.tmp 22) (.tmp 25) 132 (by rfl) 143 i0 3 Tryz.underlying132 hi0 hz1 b 0 i cap (by simp [Act.eval, Act.put]) A (n - (i + 1)) (cap - (i + 1)) news (by simp [Act.eval, Act.put, HA.out]) hsl.out hsrc.out s2.out (by omega) s3.out ?_; rw [← HW.out])
  go_wp2_with fail
  all_goals
    go_ret
    have hf := HF.out
    by_cases hcc : cap = i + 1
    · rw [hcc] at hf
      first | exact ⟨(by rw [hn1.out] <;> rfl), hf, HC.out⟩ | exact absurd hcc ‹_›
    · first | exact ⟨(by rw [hn1.out] <;> rfl), hf, HC.out⟩ | exact absurd ‹cap = i + 1› hcc
/- slices.IndexFunc at []api.Message, the function (*queue.Queue).Lease$1 -/
set_option maxRecDepth 100000 in
set_option maxHeartbeats 4000000 in
theorem queL_index  (p : Tide.Msg → Bool) (l : List Tide.Msg) (v : Value) (w : World) (hv : Tide.ListIn w 3 Tide.Msg.enc v l) (hlen : l.length ≤ 100000000)
    (hp : ∀ (m : Tide.Msg) (W : World), Below w.heap.size w W → Calls Tryz.prog 68 #[.agg #[.int .i64 m.id, .int .i64 m.till, .bool m.taken]] W fun e W' => e = .returned (.bool (p m)) ∧ Below W.heap.size W W') :
    Calls Tryz.prog 67 #[v, .func (.func 68) #[] #[]] w fun e w' => e = .returned (.int .i64 (Tide.idxOf (Tide.firstAt p l))) ∧ Below w.heap.size w w' := by
  obtain ⟨A, cap, rfl, hA⟩ := hv
  have HA := Lib.hid hA; have HP := Lib.hid hp
  clear hA hp
  go_enter Tryz.func67, Tryz.ntmps67
  go_wp2_with fail
  go_loopw [8] (fun i wr => ∃ k : Nat, k ≤ l.length ∧ i = .int .i64 k ∧ Hid (∀ (t : Nat) (b : Tide.Msg), t < k → l[t]? = some b → p b = false) ∧ Below w.heap.size w wr) (fun i _ => l.length - (intOf i).toNat)
  case atStart => exact ⟨0, by omega, rfl, fun t b ht => by omega, Below.refl _ _⟩
  case round =>
    obtain ⟨k, hk, rfl, hno, hb⟩ := hrel
    by_cases hlt : k < l.length
    · obtain ⟨m, hm⟩ := Tide.get_some l hlt
      obtain ⟨b, off, rfl, hbl, hc⟩ := HA.out (by omega)
      have cl : ∀ (j : Nat) (u : Value), m.enc[j]? = some u → wr.cell? ⟨b, off + k * 3 + j, none⟩ = some u := fun j u hu => (hb.cell (p := ⟨b, off + k * 3 + j, none⟩) hbl).trans (hc k m j u hm hu)
      have c0 : wr.cell? ⟨b, off + k * 3, none⟩ = _ := cl 0 _ rfl
      have c1 := cl 1 _ rfl; have c2 := cl 2 _ rfl
      have i0 : (0 : Int) ≤ (k : Int) := by omega
      have i1 : (k : Int) < (l.length : Int) := by omega
      have HM := Lib.hid hm
      clear hc cl hm
      go_wp2_with fail
      refine (HP.out m _ hb).mono ?_
      rintro e w1 ⟨rfl, hb1⟩
      have HB := Lib.hid (hb.trans (hb1.mono hb.size))
      cases hpm : p m
      · have HN := Lib.hid (show ∀ (t : Nat) (b : Tide.Msg), t < k + 1 → l[t]? = some b → p b = false from fun t b ht hb => by
          rcases Nat.lt_succ_iff_lt_or_eq.mp ht with h | h
          · exact hno.out t b h hb
          · subst h; rw [HM.out] at hb; cases hb; exact hpm)
        clear hb hb1 hno hpm
        go_wp2_with fail
        go_roundw
        case rel => exact ⟨k + 1, by omega, by go_num, HN, HB.out⟩
        case measure => simp [intOf]; omega
      · have HN := Lib.hid (Tide.firstAt_some hno.out HM.out hpm)
        clear hb hb1 hno hpm
        go_wp2_with fail
        go_ret
        exact ⟨by rw [HN.out]; rfl, HB.out⟩
    · have hke : k = l.length := by omega
      have HN := Lib.hid (Tide.firstAt_none (p := p) (l := l) (fun t b hb => hno.out t b (by rw [hke]; exact Tide.get_lt hb) hb))
      have HB := Lib.hid hb
      clear hb hno hke
      go_wp2_with fail
      go_ret
      exact ⟨by rw [HN.out]; rfl, HB.out⟩
/- slices.IndexFunc at []api.Message, the function (*queue.Queue).Ack$1 -/
set_option maxRecDepth 100000 in
set_option maxHeartbeats 4000000 in
theorem queA_index (B : Nat) (p : Tide.Msg → Bool) (l : List Tide.Msg) (v : Value) (w : World) (hv : Tide.ListIn w 3 Tide.Msg.enc v l) (hlen : l.length ≤ 100000000)
    (hp : ∀ (m : Tide.Msg) (W : World), Below w.heap.size w W → Calls Tryz.prog 69 #[.agg #[.int .i64 m.id, .int .i64 m.till, .bool m.taken], .pointer (some ⟨B, 0, none⟩)] W fun e W' => e = .returned (.bool (p m)) ∧ Below W.heap.size W W') :
    Calls Tryz.prog 67 #[v, .func (.func 69) #[] #[.pointer (some ⟨B, 0, none⟩)]] w fun e w' => e = .returned (.int .i64 (Tide.idxOf (Tide.firstAt p l))) ∧ Below w.heap.size w w' := by
  obtain ⟨A, cap, rfl, hA⟩ := hv
  have HA := Lib.hid hA; have HP := Lib.hid hp
  clear hA hp
  go_enter Tryz.func67, Tryz.ntmps67
  go_wp2_with fail
  go_loopw [8] (fun i wr => ∃ k : Nat, k ≤ l.length ∧ i = .int .i64 k ∧ Hid (∀ (t : Nat) (b : Tide.Msg), t < k → l[t]? = some b → p b = false) ∧ Below w.heap.size w wr) (fun i _ => l.length - (intOf i).toNat)
  case atStart => exact ⟨0, by omega, rfl, fun t b ht => by omega, Below.refl _ _⟩
  case round =>
    obtain ⟨k, hk, rfl, hno, hb⟩ := hrel
    by_cases hlt : k < l.length
    · obtain ⟨m, hm⟩ := Tide.get_some l hlt
      obtain ⟨b, off, rfl, hbl, hc⟩ := HA.out (by omega)
      have cl : ∀ (j : Nat) (u : Value), m.enc[j]? = some u → wr.cell? ⟨b, off + k * 3 + j, none⟩ = some u := fun j u hu => (hb.cell (p := ⟨b, off + k * 3 + j, none⟩) hbl).trans (hc k m j u hm hu)
      have c0 : wr.cell? ⟨b, off + k * 3, none⟩ = _ := cl 0 _ rfl
      have c1 := cl 1 _ rfl; have c2 := cl 2 _ rfl
      have i0 : (0 : Int) ≤ (k : Int) := by omega
      have i1 : (k : Int) < (l.length : Int) := by omega
      have HM := Lib.hid hm
      clear hc cl hm
      go_wp2_with fail
      refine (HP.out m _ hb).mono ?_
      rintro e w1 ⟨rfl, hb1⟩
      have HB := Lib.hid (hb.trans (hb1.mono hb.size))
      cases hpm : p m
      · have HN := Lib.hid (show ∀ (t : Nat) (b : Tide.Msg), t < k + 1 → l[t]? = some b → p b = false from fun t b ht hb => by
          rcases Nat.lt_succ_iff_lt_or_eq.mp ht with h | h
          · exact hno.out t b h hb
          · subst h; rw [HM.out] at hb; cases hb; exact hpm)
        clear hb hb1 hno hpm
        go_wp2_with fail
        go_roundw
        case rel => exact ⟨k + 1, by omega, by go_num, HN, HB.out⟩
        case measure => simp [intOf]; omega
      · have HN := Lib.hid (Tide.firstAt_some hno.out HM.out hpm)
        clear hb hb1 hno hpm
        go_wp2_with fail
        go_ret
        exact ⟨by rw [HN.out]; rfl, HB.out⟩
    · have hke : k = l.length := by omega
      have HN := Lib.hid (Tide.firstAt_none (p := p) (l := l) (fun t b hb => hno.out t b (by rw [hke]; exact Tide.get_lt hb) hb))
      have HB := Lib.hid hb
      clear hb hno hke
      go_wp2_with fail
      go_ret
      exact ⟨by rw [HN.out]; rfl, HB.out⟩
set_option maxHeartbeats 400000 in
theorem queFree (m : Tide.Msg) (W : World) : Calls Tryz.prog 68 #[.agg #[.int .i64 m.id, .int .i64 m.till, .bool m.taken]] W fun e W' => e = .returned (.bool (Tide.free m)) ∧ Below W.heap.size W W' := by
  go_enter Tryz.func68, Tryz.ntmps68
  go_wp2_with fail
  go_ret
  exact ⟨rfl, (Below.refl _ _).alloc (Nat.le_refl _) _⟩
set_option maxHeartbeats 400000 in
theorem queIs (id : Int) (B : Nat) (m : Tide.Msg) (W : World) (h : W.cell? ⟨B, 0, none⟩ = some (.int .i64 id)) : Calls Tryz.prog 69 #[.agg #[.int .i64 m.id, .int .i64 m.till, .bool m.taken], .pointer (some ⟨B, 0, none⟩)] W fun e W' => e = .returned (.bool (Tide.isId id m)) ∧ Below W.heap.size W W' := by
  have hB := World.block_lt_of_cell? W _ h
  simp only at hB
  go_enter Tryz.func69, Tryz.ntmps69
  go_wp2_with fail
  go_ret
  exact ⟨rfl, (Below.refl _ _).alloc (Nat.le_refl _) _⟩
open Go.ChangeShapes Go.WideShapes Go.ChangeAt Go.RowKit
set_option maxRecDepth 100000 in
theorem cells_u64 : Tryz.prog.cellsOf 59 = 1 := by kernel_rfl
set_option maxRecDepth 100000 in
theorem cells_bool : Tryz.prog.cellsOf 4 = 1 := by kernel_rfl
set_option maxRecDepth 100000 in
theorem cells_cron : Tryz.prog.cellsOf 61 = 7 := by kernel_rfl
set_option maxRecDepth 100000 in
theorem u64_wf {k : Int} (h : (Lit.int .u64 k).wf = true) : ∃ n : Nat, k = (n : Int) ∧ n < 18446744073709551616 := by
  have h1 := bounds_u64 h
  exact ⟨k.toNat, by omega, by omega⟩
section
variable {H : Type} {enc : TypeId × Value → H} {w : World} {base : Nat} {spare : Nat → Bool} {held : Bool}
end
open Go.ChangeShapes Go.WideShapes Go.ChangeAt Go.RowKit
theorem cells_span : Tryz.prog.cellsOf 63 = 14 := by kernel_rfl
section
variable {H : Type} {enc : TypeId × Value → H} {w : World} {base : Nat} {spare : Nat → Bool} {held : Bool}
set_option maxRecDepth 100000 in
theorem cron_list {fuel : Nat} {x : DataW H × List MemPlace} {c0 c1 c2 c3 c4 c5 c6 : Value} (hf : DataW.trod enc Tryz.prog w base spare held fuel 61 [c0, c1, c2, c3, c4, c5, c6] = some x) :
    ∃ (a b c d e : Nat) (f g : Bool), c0 = .int .u64 (a : Int) ∧ c1 = .int .u64 (b : Int) ∧ c2 = .int .u64 (c : Int) ∧ c3 = .int .u64 (d : Int) ∧ c4 = .int .u64 (e : Int) ∧ c5 = .bool f ∧ c6 = .bool g ∧ Cr.fits ⟨a, b, c, d, e, f, g⟩ := by
  obtain ⟨xs, n, _, hx, _, hlen, hg⟩ := DataW.trod_struct Tryz.underlying61 hf
  have one : ∀ (i : Nat) (c : Value), i < 7 → (DataW.trod enc Tryz.prog w base spare held n 59 [c] = xs[i]?) → ∃ k : Nat, c = .int .u64 (k : Int) ∧ k < 18446744073709551616 := by
    intro i c hi ht
    have hs : xs[i]? = some (xs[i]'(by rw [hlen]; exact hi)) := List.getElem?_eq_getElem _
    obtain ⟨k, hc, _, wf⟩ := DataW.trod_int Tryz.underlying59 (ht.trans hs)
    obtain ⟨m, rfl, hm⟩ := u64_wf wf
    exact ⟨m, by simpa using hc, hm⟩
  have oneb : ∀ (i : Nat) (c : Value), i < 7 → (DataW.trod enc Tryz.prog w base spare held n 4 [c] = xs[i]?) → ∃ k : Bool, c = .bool k := by
    intro i c hi ht
    have hs : xs[i]? = some (xs[i]'(by rw [hlen]; exact hi)) := List.getElem?_eq_getElem _
    obtain ⟨k, hc, _⟩ := DataW.trod_bool Tryz.underlying4 (ht.trans hs)
    exact ⟨k, by simpa using hc⟩
  obtain ⟨k0, h0', h0⟩ := one 0 c0 (by omega) (by simpa [cells_u64] using hg 0 _ rfl)
  obtain ⟨k1, h1', h1⟩ := one 1 c1 (by omega) (by simpa [cells_u64] using hg 1 _ rfl)
  obtain ⟨k2, h2', h2⟩ := one 2 c2 (by omega) (by simpa [cells_u64] using hg 2 _ rfl)
  obtain ⟨k3, h3', h3⟩ := one 3 c3 (by omega) (by simpa [cells_u64] using hg 3 _ rfl)
  obtain ⟨k4, h4', h4⟩ := one 4 c4 (by omega) (by simpa [cells_u64] using hg 4 _ rfl)
  obtain ⟨k5, h5'⟩ := oneb 5 c5 (by omega) (by simpa [cells_bool] using hg 5 _ rfl)
  obtain ⟨k6, h6'⟩ := oneb 6 c6 (by omega) (by simpa [cells_bool] using hg 6 _ rfl)
  exact ⟨k0, k1, k2, k3, k4, k5, k6, h0', h1', h2', h3', h4', h5', h6', ⟨h0, h1, h2, h3, h4⟩⟩
end
end Go.Proofs.YtidonhndeohdlaaGreatDoor
