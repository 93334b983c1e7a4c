/- TopZero's test of the requests. -/
import Derived.Test.YtlfaogkdghnmcaaGreatTpB
import Derived.Test.YtlfaogkdghnmcaaGreatWldP
import Derived.Test.YtlfaogkdghnmcaaGreatTpC
set_option linter.unusedVariables false
set_option linter.unusedSimpArgs false
namespace Go.Proofs.YtlfaogkdghnmcaaGreat
open Go.RowKit
section
variable {R : Nat → Prop} {q : Wp} {m : Wo}
set_option maxRecDepth 100000 in
set_option maxHeartbeats 3200000 in
theorem zerReq (r : Tide.Req) (B : Nat) (W : World) (h : WoN R W q m) (h0 : 0 ≤ m.now) (h1 : m.now ≤ 1099511627776) (hB : B < W.heap.size) (hc : W.cell? ⟨B, 0, none⟩ = some (.pointer (some ⟨q.g, 0, none⟩))) :
    Calls Tryz.prog 45 #[.agg #[.int .i64 r.id, .int .i64 r.source, .int .i64 r.till, .int .i64 r.fate, .int .i64 r.pod], .pointer (some ⟨B, 0, none⟩)] W fun e W' => e = .returned (.bool (stillR (m.now + 1) r)) ∧ Below W.heap.size W W' := by
  have HN := Lib.hid (h.alloc (.cells #[.int .i64 r.id, .int .i64 r.source, .int .i64 r.till, .int .i64 r.fate, .int .i64 r.pod] 55))
  have HB := Lib.hid ((Below.refl W.heap.size W).alloc (Nat.le_refl _) (.cells #[.int .i64 r.id, .int .i64 r.source, .int .i64 r.till, .int .i64 r.fate, .int .i64 r.pod] 55))
  have HF := Lib.hid (show stillR (m.now + 1) r = (r.fate == 2 || (r.fate == 1 && decide (m.now + 1 < r.till))) from rfl)
  clear h
  by_cases f2 : r.fate = 2
  · rw [f2] at HN HB HF ⊢
    clear f2
    go_enter Tryz.func45, Tryz.ntmps45
    go_wp2_with fail
    go_quiet ((go_at_call 23; exact Calls.quiet_of_same (woNow' (HN.out.drewN _))))
    go_wp2_with fail
    go_ret
    exact ⟨by rw [HF.out] <;> rfl, below_drewN HB.out _⟩
  by_cases f1 : r.fate = 1
  · have hw : IntKind.i64.wrap (m.now + 1) = m.now + 1 := IntWalk.i64_in _ (by omega)
    rw [f1] at HN HB HF ⊢
    clear f2 f1
    go_enter Tryz.func45, Tryz.ntmps45
    go_wp2_with fail
    go_quiet ((go_at_call 23; exact Calls.quiet_of_same (woNow' (HN.out.drewN _))))
    go_wp2_with fail
    go_ret
    exact ⟨by rw [HF.out] <;> rfl, below_drewN HB.out _⟩
  · have b2 : (r.fate == 2) = false := by simpa using f2
    have b1 : (r.fate == 1) = false := by simpa using f1
    have HF2 := Lib.hid (show stillR (m.now + 1) r = false by rw [HF.out, b2, b1]; rfl)
    clear f2 f1 HF
    go_enter Tryz.func45, Tryz.ntmps45
    go_wp2_with fail
    go_quiet ((go_at_call 23; exact Calls.quiet_of_same (woNow' (HN.out.drewN _))))
    go_wp2_with fail
    go_ret
    exact ⟨by rw [HF2.out] <;> rfl, below_drewN HB.out _⟩
end
/- slices.IndexFunc at []api.Request, the function tidetop.TopZero$1 -/
set_option maxRecDepth 100000 in
set_option maxHeartbeats 4000000 in
theorem zerP_index (B : Nat) (p : Tide.Req → Bool) (l : List Tide.Req) (v : Value) (w : World) (hv : Tide.ListIn w 5 Tide.Req.enc v l) (hlen : l.length ≤ 100000000)
    (hp : ∀ (m : Tide.Req) (W : World), Below w.heap.size w W → Calls Tryz.prog 45 #[.agg #[.int .i64 m.id, .int .i64 m.source, .int .i64 m.till, .int .i64 m.fate, .int .i64 m.pod], .pointer (some ⟨B, 0, none⟩)] W fun e W' => e = .returned (.bool (p m)) ∧ Below W.heap.size W W') :
    Calls Tryz.prog 90 #[v, .func (.func 45) #[] #[.pointer (some ⟨B, 0, none⟩)]] w fun e w' => e = .returned (.int .i64 (Tide.idxOf (Tide.firstAt p l))) ∧ Below w.heap.size w w' := by
  obtain ⟨A, cap, rfl, hA⟩ := hv
  have HA := Lib.hid hA; have HP := Lib.hid hp
  clear hA hp
  go_enter Tryz.func90, Tryz.ntmps90
  go_wp2_with fail
  go_loopw [8] (fun i wr => ∃ k : Nat, k ≤ l.length ∧ i = .int .i64 k ∧ Hid (∀ (t : Nat) (b : Tide.Req), t < k → l[t]? = some b → p b = false) ∧ Below w.heap.size w wr) (fun i _ => l.length - (intOf i).toNat)
  case atStart => exact ⟨0, by omega, rfl, fun t b ht => by omega, Below.refl _ _⟩
  case round =>
    obtain ⟨k, hk, rfl, hno, hb⟩ := hrel
    by_cases hlt : k < l.length
    · obtain ⟨m, hm⟩ := Tide.get_some l hlt
      obtain ⟨b, off, rfl, hbl, hc⟩ := HA.out (by omega)
      have cl : ∀ (j : Nat) (u : Value), m.enc[j]? = some u → wr.cell? ⟨b, off + k * 5 + j, none⟩ = some u := fun j u hu => (hb.cell (p := ⟨b, off + k * 5 + j, none⟩) hbl).trans (hc k m j u hm hu)
      have c0 : wr.cell? ⟨b, off + k * 5, none⟩ = _ := cl 0 _ rfl
      have c1 : wr.cell? ⟨b, off + k * 5 + 1, none⟩ = some (.int .i64 m.source) := cl 1 _ rfl; have c2 : wr.cell? ⟨b, off + k * 5 + 2, none⟩ = some (.int .i64 m.till) := cl 2 _ rfl; have c3 : wr.cell? ⟨b, off + k * 5 + 3, none⟩ = some (.int .i64 m.fate) := cl 3 _ rfl; have c4 : wr.cell? ⟨b, off + k * 5 + 4, none⟩ = some (.int .i64 m.pod) := cl 4 _ rfl
      have i0 : (0 : Int) ≤ (k : Int) := by omega
      have i1 : (k : Int) < (l.length : Int) := by omega
      have HM := Lib.hid hm
      clear hc cl hm
      go_wp2_with fail
      refine (HP.out m _ hb).mono ?_
      rintro e w1 ⟨rfl, hb1⟩
      have HB := Lib.hid (hb.trans (hb1.mono hb.size))
      cases hpm : p m
      · have HN := Lib.hid (show ∀ (t : Nat) (b : Tide.Req), t < k + 1 → l[t]? = some b → p b = false from fun t b ht hb => by
          rcases Nat.lt_succ_iff_lt_or_eq.mp ht with h | h
          · exact hno.out t b h hb
          · subst h; rw [HM.out] at hb; cases hb; exact hpm)
        clear hb hb1 hno hpm
        go_wp2_with fail
        go_roundw
        case rel => exact ⟨k + 1, by omega, by go_num, HN, HB.out⟩
        case measure => simp [intOf]; omega
      · have HN := Lib.hid (Tide.firstAt_some hno.out HM.out hpm)
        clear hb hb1 hno hpm
        go_wp2_with fail
        go_ret
        exact ⟨by rw [HN.out]; rfl, HB.out⟩
    · have hke : k = l.length := by omega
      have HN := Lib.hid (Tide.firstAt_none (p := p) (l := l) (fun t b hb => hno.out t b (by rw [hke]; exact Tide.get_lt hb) hb))
      have HB := Lib.hid hb
      clear hb hno hke
      go_wp2_with fail
      go_ret
      exact ⟨by rw [HN.out]; rfl, HB.out⟩
theorem any_first {α : Type} (p : α → Bool) (l : List α) : l.any p = (Tide.firstAt p l).isSome := by
  cases hf : Tide.firstAt p l with
  | some i =>
    obtain ⟨a, h1, h2, _⟩ := Tide.firstAt_spec hf
    rw [List.any_eq_true.2 ⟨a, List.mem_of_getElem? h1, h2⟩]; rfl
  | none =>
    rw [Option.isSome_none, List.any_eq_false]
    intro a ha
    obtain ⟨k, hk⟩ := List.mem_iff_getElem?.1 ha
    rw [Tide.firstAt_miss hf k a hk]; simp
set_option maxRecDepth 100000 in
set_option maxHeartbeats 1600000 in
theorem zerAny {R : Nat → Prop} {q : Wp} {m : Wo} (B : Nat) (v : Value) (w : World) (h : WoN R w q m) (h0 : 0 ≤ m.now) (h1 : m.now ≤ 1099511627776) (hB : B < w.heap.size) (hc : w.cell? ⟨B, 0, none⟩ = some (.pointer (some ⟨q.g, 0, none⟩)))
    (hv : Tide.ListIn w 5 Tide.Req.enc v m.b) (hl : m.b.length ≤ 200) :
    Calls Tryz.prog 43 #[v, .func (.func 45) #[] #[.pointer (some ⟨B, 0, none⟩)]] w fun e w' => e = .returned (.bool (m.b.any (stillR (m.now + 1)))) ∧ Below w.heap.size w w' := by
  have HI := Lib.hid (zerP_index B (stillR (m.now + 1)) m.b v w hv (by omega) (fun r W hb => zerReq r B W (h.below hb) h0 h1 (Nat.lt_of_lt_of_le hB hb.size) ((hb.cell (p := ⟨B, 0, none⟩) hB).trans hc)))
  have HP := Lib.hid (any_first (stillR (m.now + 1)) m.b)
  generalize Tide.firstAt (stillR (m.now + 1)) m.b = r at HI HP
  clear h hv hc
  cases r with
  | none =>
    rw [hp_none] at HI
    go_enter Tryz.func43, Tryz.ntmps43
    go_wp2_with fail
    refine HI.out.mono ?_
    rintro e w1 ⟨rfl, hb⟩
    have HB := Lib.hid hb
    clear hb
    go_wp2_with fail
    go_ret
    exact ⟨by rw [HP.out] <;> rfl, HB.out⟩
  | some i =>
    rw [hp_some] at HI
    have hi : (0 : Int) ≤ (i : Int) := by omega
    go_enter Tryz.func43, Tryz.ntmps43
    go_wp2_with fail
    refine HI.out.mono ?_
    rintro e w1 ⟨rfl, hb⟩
    have HB := Lib.hid hb
    clear hb
    go_wp2_with fail
    go_ret
    exact ⟨by rw [HP.out] <;> rfl, HB.out⟩
end Go.Proofs.YtlfaogkdghnmcaaGreat
