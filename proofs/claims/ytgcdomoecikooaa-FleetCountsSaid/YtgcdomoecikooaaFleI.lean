/- The walk of FleetEven. -/
import Derived.Test.YtgcdomoecikooaaFleH
namespace Tide
theorem pick_min {st : Int} {l : List Pod} : ∀ {k j : Nat} {p : Pod}, pick (fun p => p.state == st) ltLoad l k = some j → l[j]? = some p → ∀ (i : Nat) (q : Pod), i < k → l[i]? = some q → q.state = st → p.load ≤ q.load
  | 0, j, p, h, _, _, _, hi, _, _ => by omega
  | k + 1, j, p, h, hp, i, q, hi, hq, hs => by
    cases hk : l[k]? with
    | none =>
      unfold pick at h; rw [hk] at h
      rcases Nat.lt_succ_iff_lt_or_eq.1 hi with c | c
      · exact pick_min h hp i q c hq hs
      · subst c; rw [hk] at hq; cases hq
    | some r =>
      rw [pick_succ hk] at h
      by_cases hc : ((r.state == st) && beats ltLoad l (pick (fun p => p.state == st) ltLoad l k) r) = true
      · rw [if_pos hc] at h
        cases h
        rw [hk] at hp; cases hp
        rcases Nat.lt_succ_iff_lt_or_eq.1 hi with c | c
        · rw [Bool.and_eq_true] at hc
          cases hb : pick (fun p => p.state == st) ltLoad l k with
          | none => have := pick_none hb i q c hq; simp [hs] at this
          | some j' =>
            obtain ⟨_, p', hp', _⟩ := pick_lt hb
            have := pick_min hb hp' i q c hq hs
            have h2 := hc.2
            rw [hb] at h2
            simp only [beats, hp', ltLoad] at h2
            have := of_decide_eq_true h2
            omega
        · subst c; rw [hk] at hq; cases hq; exact Int.le_refl _
      · rw [if_neg hc] at h
        rcases Nat.lt_succ_iff_lt_or_eq.1 hi with c | c
        · exact pick_min h hp i q c hq hs
        · subst c
          rw [hk] at hq; cases hq
          rw [h] at hc
          simp only [beats, hp, ltLoad, hs] at hc
          have : ¬ q.load < p.load := by simpa using hc
          omega
theorem findP_self {l : List Pod} (hu : l.Pairwise (fun a b => a.id < b.id)) {i : Nat} {p : Pod} (hp : l[i]? = some p) : findP l p.id = some i :=
  firstAt_some (fun k b hk hb => by have := up_get hu hk hp hb; unfold podIs; simp; omega) hp (by unfold podIs; simp)
/-- ready, and with less to do -/
def lessReady (x : Int) (q : Pod) : Bool := (q.state == 3) && decide (q.load < x)
theorem give_least {l : List Pod} {most : Int} {i : Nat} (h : giveAt l most = some i) : ∃ p, l[i]? = some p ∧ p.state = 3 ∧ p.load < most ∧ firstAt (lessReady p.load) l = none := by
  obtain ⟨p, hp, hs, hl⟩ := giveAt_some h
  refine ⟨p, hp, hs, hl, firstAt_none fun k q hq => ?_⟩
  unfold giveAt at h
  cases hb : best 3 ltLoad l with
  | none => rw [hb] at h; cases h
  | some j =>
    rw [hb] at h
    simp only at h
    split at h
    · cases h
    · cases h
      unfold lessReady
      by_cases c : q.state = 3
      · have := pick_min hb hp k q (get_lt hq) hq c
        simp [c]; omega
      · simp [c]
end Tide
namespace Go.Proofs.Ytgcdomoecikooaa
open Go.RowKit
set_option linter.unusedVariables false
/- slices.IndexFunc at []api.Pod, the function tidekeep.FleetEven$1 -/
set_option maxRecDepth 100000 in
set_option maxHeartbeats 4000000 in
theorem fleE_index (B : Nat) (p : Tide.Pod → Bool) (l : List Tide.Pod) (v : Value) (w : World) (hv : Tide.ListIn w 3 Tide.Pod.enc v l) (hlen : l.length ≤ 100000000)
    (hp : ∀ (m : Tide.Pod) (W : World), Below w.heap.size w W → Calls Try.prog 40 #[.agg #[.int .i64 m.id, .int .i64 m.state, .int .i64 m.load], .pointer (some ⟨B, 0, none⟩)] W fun e W' => e = .returned (.bool (p m)) ∧ Below W.heap.size W W') :
    Calls Try.prog 39 #[v, .func (.func 40) #[] #[.pointer (some ⟨B, 0, none⟩)]] w fun e w' => e = .returned (.int .i64 (Tide.idxOf (Tide.firstAt p l))) ∧ Below w.heap.size w w' := by
  obtain ⟨A, cap, rfl, hA⟩ := hv
  have HA := Lib.hid hA; have HP := Lib.hid hp
  clear hA hp
  go_enter Try.func39, Try.ntmps39
  go_wp2_with fail
  go_loopw [8] (fun i wr => ∃ k : Nat, k ≤ l.length ∧ i = .int .i64 k ∧ Hid (∀ (t : Nat) (b : Tide.Pod), t < k → l[t]? = some b → p b = false) ∧ Below w.heap.size w wr) (fun i _ => l.length - (intOf i).toNat)
  case atStart => exact ⟨0, by omega, rfl, fun t b ht => by omega, Below.refl _ _⟩
  case round =>
    obtain ⟨k, hk, rfl, hno, hb⟩ := hrel
    by_cases hlt : k < l.length
    · obtain ⟨m, hm⟩ := Tide.get_some l hlt
      obtain ⟨b, off, rfl, hbl, hc⟩ := HA.out (by omega)
      have cl : ∀ (j : Nat) (u : Value), m.enc[j]? = some u → wr.cell? ⟨b, off + k * 3 + j, none⟩ = some u := fun j u hu => (hb.cell (p := ⟨b, off + k * 3 + j, none⟩) hbl).trans (hc k m j u hm hu)
      have c0 : wr.cell? ⟨b, off + k * 3, none⟩ = _ := cl 0 _ rfl
      have c1 := cl 1 _ rfl; have c2 := cl 2 _ rfl
      have i0 : (0 : Int) ≤ (k : Int) := by omega
      have i1 : (k : Int) < (l.length : Int) := by omega
      have HM := Lib.hid hm
      clear hc cl hm
      go_wp2_with fail
      refine (HP.out m _ hb).mono ?_
      rintro e w1 ⟨rfl, hb1⟩
      have HB := Lib.hid (hb.trans (hb1.mono hb.size))
      cases hpm : p m
      · have HN := Lib.hid (show ∀ (t : Nat) (b : Tide.Pod), t < k + 1 → l[t]? = some b → p b = false from fun t b ht hb => by
          rcases Nat.lt_succ_iff_lt_or_eq.mp ht with h | h
          · exact hno.out t b h hb
          · subst h; rw [HM.out] at hb; cases hb; exact hpm)
        clear hb hb1 hno hpm
        go_wp2_with fail
        go_roundw
        case rel => exact ⟨k + 1, by omega, by go_num, HN, HB.out⟩
        case measure => simp [intOf]; omega
      · have HN := Lib.hid (Tide.firstAt_some hno.out HM.out hpm)
        clear hb hb1 hno hpm
        go_wp2_with fail
        go_ret
        exact ⟨by rw [HN.out]; rfl, HB.out⟩
    · have hke : k = l.length := by omega
      have HN := Lib.hid (Tide.firstAt_none (p := p) (l := l) (fun t b hb => hno.out t b (by rw [hke]; exact Tide.get_lt hb) hb))
      have HB := Lib.hid hb
      clear hb hno hke
      go_wp2_with fail
      go_ret
      exact ⟨by rw [HN.out]; rfl, HB.out⟩
/- slices.IndexFunc at []api.Pod, the function tidekeep.FleetEven$2 -/
set_option maxRecDepth 100000 in
set_option maxHeartbeats 4000000 in
theorem fleO_index (B C : Nat) (p : Tide.Pod → Bool) (l : List Tide.Pod) (v : Value) (w : World) (hv : Tide.ListIn w 3 Tide.Pod.enc v l) (hlen : l.length ≤ 100000000)
    (hp : ∀ (m : Tide.Pod) (W : World), Below w.heap.size w W → Calls Try.prog 42 #[.agg #[.int .i64 m.id, .int .i64 m.state, .int .i64 m.load], .pointer (some ⟨B, 0, none⟩), .pointer (some ⟨C, 0, none⟩)] W fun e W' => e = .returned (.bool (p m)) ∧ Below W.heap.size W W') :
    Calls Try.prog 39 #[v, .func (.func 42) #[] #[.pointer (some ⟨B, 0, none⟩), .pointer (some ⟨C, 0, none⟩)]] w fun e w' => e = .returned (.int .i64 (Tide.idxOf (Tide.firstAt p l))) ∧ Below w.heap.size w w' := by
  obtain ⟨A, cap, rfl, hA⟩ := hv
  have HA := Lib.hid hA; have HP := Lib.hid hp
  clear hA hp
  go_enter Try.func39, Try.ntmps39
  go_wp2_with fail
  go_loopw [8] (fun i wr => ∃ k : Nat, k ≤ l.length ∧ i = .int .i64 k ∧ Hid (∀ (t : Nat) (b : Tide.Pod), t < k → l[t]? = some b → p b = false) ∧ Below w.heap.size w wr) (fun i _ => l.length - (intOf i).toNat)
  case atStart => exact ⟨0, by omega, rfl, fun t b ht => by omega, Below.refl _ _⟩
  case round =>
    obtain ⟨k, hk, rfl, hno, hb⟩ := hrel
    by_cases hlt : k < l.length
    · obtain ⟨m, hm⟩ := Tide.get_some l hlt
      obtain ⟨b, off, rfl, hbl, hc⟩ := HA.out (by omega)
      have cl : ∀ (j : Nat) (u : Value), m.enc[j]? = some u → wr.cell? ⟨b, off + k * 3 + j, none⟩ = some u := fun j u hu => (hb.cell (p := ⟨b, off + k * 3 + j, none⟩) hbl).trans (hc k m j u hm hu)
      have c0 : wr.cell? ⟨b, off + k * 3, none⟩ = _ := cl 0 _ rfl
      have c1 := cl 1 _ rfl; have c2 := cl 2 _ rfl
      have i0 : (0 : Int) ≤ (k : Int) := by omega
      have i1 : (k : Int) < (l.length : Int) := by omega
      have HM := Lib.hid hm
      clear hc cl hm
      go_wp2_with fail
      refine (HP.out m _ hb).mono ?_
      rintro e w1 ⟨rfl, hb1⟩
      have HB := Lib.hid (hb.trans (hb1.mono hb.size))
      cases hpm : p m
      · have HN := Lib.hid (show ∀ (t : Nat) (b : Tide.Pod), t < k + 1 → l[t]? = some b → p b = false from fun t b ht hb => by
          rcases Nat.lt_succ_iff_lt_or_eq.mp ht with h | h
          · exact hno.out t b h hb
          · subst h; rw [HM.out] at hb; cases hb; exact hpm)
        clear hb hb1 hno hpm
        go_wp2_with fail
        go_roundw
        case rel => exact ⟨k + 1, by omega, by go_num, HN, HB.out⟩
        case measure => simp [intOf]; omega
      · have HN := Lib.hid (Tide.firstAt_some hno.out HM.out hpm)
        clear hb hb1 hno hpm
        go_wp2_with fail
        go_ret
        exact ⟨by rw [HN.out]; rfl, HB.out⟩
    · have hke : k = l.length := by omega
      have HN := Lib.hid (Tide.firstAt_none (p := p) (l := l) (fun t b hb => hno.out t b (by rw [hke]; exact Tide.get_lt hb) hb))
      have HB := Lib.hid hb
      clear hb hno hke
      go_wp2_with fail
      go_ret
      exact ⟨by rw [HN.out]; rfl, HB.out⟩
set_option maxHeartbeats 400000 in
theorem evenIs (id : Int) (B : Nat) (m : Tide.Pod) (W : World) (h : W.cell? ⟨B, 0, none⟩ = some (.int .i64 id)) : Calls Try.prog 40 #[.agg #[.int .i64 m.id, .int .i64 m.state, .int .i64 m.load], .pointer (some ⟨B, 0, none⟩)] W fun e W' => e = .returned (.bool (Tide.podIs id m)) ∧ Below W.heap.size W W' := by
  have hB := World.block_lt_of_cell? W _ h
  simp only at hB
  go_enter Try.func40, Try.ntmps40
  go_wp2_with fail
  go_ret
  exact ⟨rfl, (Below.refl _ _).alloc (Nat.le_refl _) _⟩
set_option maxRecDepth 100000 in
set_option maxHeartbeats 1600000 in
theorem evenLess (B C b n cap i : Nat) (x : Int) (m : Tide.Pod) (W : World) (h1 : W.cell? ⟨B, 0, none⟩ = some (.slice (some ⟨b, 0, none⟩) n cap)) (h2 : W.cell? ⟨C, 0, none⟩ = some (.int .i64 i)) (hi : i < n) (h3 : W.cell? ⟨b, i * 3 + 2, none⟩ = some (.int .i64 x)) :
    Calls Try.prog 42 #[.agg #[.int .i64 m.id, .int .i64 m.state, .int .i64 m.load], .pointer (some ⟨B, 0, none⟩), .pointer (some ⟨C, 0, none⟩)] W fun e W' => e = .returned (.bool (Tide.lessReady x m)) ∧ Below W.heap.size W W' := by
  have l1 := World.block_lt_of_cell? W _ h1
  have l2 := World.block_lt_of_cell? W _ h2
  have l3 := World.block_lt_of_cell? W _ h3
  simp only at l1 l2 l3
  have i0 : (0 : Int) ≤ (i : Int) := by omega
  have i1 : (i : Int) < (n : Int) := by omega
  have HB := Lib.hid ((Below.refl W.heap.size W).alloc (Nat.le_refl _) (.cells #[.int .i64 m.id, .int .i64 m.state, .int .i64 m.load] 64))
  cases hs : (m.state == 3)
  · have HT := Lib.hid (show Tide.lessReady x m = false by unfold Tide.lessReady; rw [hs]; rfl)
    go_enter Try.func42, Try.ntmps42
    go_wp2_with fail
    go_quiet (fail)
    go_wp2_with fail
    go_ret
    exact ⟨by rw [HT.out] <;> rfl, fle_drewN HB.out _⟩
  · have HT := Lib.hid (show Tide.lessReady x m = decide (m.load < x) by unfold Tide.lessReady; rw [hs]; rfl)
    go_enter Try.func42, Try.ntmps42
    go_wp2_with fail
    go_quiet (fail)
    go_wp2_with fail
    go_ret
    exact ⟨by rw [HT.out] <;> rfl, fle_drewN HB.out _⟩
set_option maxRecDepth 100000 in
set_option maxHeartbeats 1600000 in
theorem evenNone (B C b cap i : Nat) (p : Tide.Pod) (l : List Tide.Pod) (v : Value) (w : World) (hv : Tide.ListIn w 3 Tide.Pod.enc v l) (hlen : l.length ≤ 10000000) (h1 : w.cell? ⟨B, 0, none⟩ = some (.slice (some ⟨b, 0, none⟩) l.length cap)) (h2 : w.cell? ⟨C, 0, none⟩ = some (.int .i64 i)) (hi : i < l.length)
    (h3 : w.cell? ⟨b, i * 3 + 2, none⟩ = some (.int .i64 p.load)) (hn : Tide.firstAt (Tide.lessReady p.load) l = none) :
    Calls Try.prog 41 #[v, .func (.func 42) #[] #[.pointer (some ⟨B, 0, none⟩), .pointer (some ⟨C, 0, none⟩)]] w (FleRead w (.bool false)) := by
  have HV := Lib.hid hv; have H1 := Lib.hid h1; have H2 := Lib.hid h2; have H3 := Lib.hid h3; have HN := Lib.hid hn
  clear hv h1 h2 h3 hn
  go_enter Try.func41, Try.ntmps41
  go_wp2_with fail
  refine (fleO_index B C (Tide.lessReady p.load) l v _ HV.out (by omega) (fun m W hW => evenLess B C b l.length cap i p.load m W ((hW.cell (World.block_lt_of_cell? w _ H1.out)).trans H1.out) ((hW.cell (World.block_lt_of_cell? w _ H2.out)).trans H2.out) hi ((hW.cell (World.block_lt_of_cell? w _ H3.out)).trans H3.out))).mono ?_
  rintro e w1 ⟨rfl, hb⟩
  have HB := Lib.hid hb
  rw [HN.out, idx_none]
  clear hb
  go_wp2_with fail
  go_ret
  exact ⟨rfl, HB.out⟩
end Go.Proofs.Ytgcdomoecikooaa
