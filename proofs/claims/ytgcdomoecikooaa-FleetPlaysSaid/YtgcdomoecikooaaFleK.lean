/- The contracts of the reference's Crew: Count, out, find, Turn, Crash, Done. -/
import Derived.Test.YtgcdomoecikooaaFleH
import Derived.Test.YtgcdomoecikooaaInC
namespace Tide
/-- the reference's look: the one that is chosen goes, or is drained -/
def otherId (id : Int) (p : Pod) : Bool := !(p.id == id)
theorem filter_erase {l : List Pod} (hu : l.Pairwise (fun a b => a.id < b.id)) {i : Nat} {p : Pod} (hp : l[i]? = some p) : l.filter (otherId p.id) = l.eraseIdx i := by
  have h1 : ∀ q ∈ l.take i, otherId p.id q = true := fun q hq => by
    obtain ⟨j, hj⟩ := List.mem_iff_getElem?.1 hq
    rw [List.getElem?_take] at hj
    split at hj
    · rename_i hlt
      have := up_get hu hlt hp hj
      unfold otherId; simp; omega
    · cases hj
  have h2 : ∀ q ∈ l.drop (i + 1), otherId p.id q = true := fun q hq => by
    obtain ⟨j, hj⟩ := List.mem_iff_getElem?.1 hq
    rw [List.getElem?_drop] at hj
    have := up_get hu (show i < i + 1 + j by omega) hj hp
    unfold otherId; simp; omega
  rw [erase_at]
  conv => lhs; rw [split_at hp]
  rw [List.filter_append, List.filter_cons, List.filter_eq_self.2 h1, List.filter_eq_self.2 h2]
  have : otherId p.id p = false := by unfold otherId; simp
  rw [this]; simp
theorem refPick_fewer {l : List Pod} {last most : Int} (h : Crewed l last most) (hl : 0 < liveN l) : ∃ i p, refPick l l.length = some i ∧ l[i]? = some p ∧ fewerL l = (if p.state = 3 ∧ 0 < p.load then l.set i { p with state := 4 } else l.eraseIdx i) := by
  rw [ref_is_prog h.states]
  unfold progPick fewerL
  rw [best_gt h.up, best_gt h.up, best_both h.up]
  cases h1 : pick (fun p => p.state == 1) anyOf l l.length with
  | some i =>
    obtain ⟨_, p, hp, hs⟩ := pick_lt h1
    have hs' : p.state = 1 := by simpa using hs
    exact ⟨i, p, rfl, hp, by rw [if_neg (by omega)]⟩
  | none =>
    cases h2 : pick (fun p => p.state == 2) anyOf l l.length with
    | some i =>
      obtain ⟨_, p, hp, hs⟩ := pick_lt h2
      have hs' : p.state = 2 := by simpa using hs
      exact ⟨i, p, rfl, hp, by rw [if_neg (by omega)]⟩
    | none =>
      obtain ⟨i, h3⟩ := victim h.states hl (by rw [best_gt h.up]; exact h1) (by rw [best_gt h.up]; exact h2)
      rw [best_both h.up] at h3
      obtain ⟨_, p, hp, hs⟩ := pick_lt h3
      have hs' : p.state = 3 := by simpa using hs
      have hla : loadAt l i = p.load := by unfold loadAt; rw [hp]; rfl
      have h0 := (h.loads p (List.mem_of_getElem? hp)).1
      refine ⟨i, p, h3, hp, ?_⟩
      simp only [h3, hla]
      by_cases c : p.load = 0
      · rw [if_pos c, if_neg (by omega)]
      · rw [if_neg c, if_pos ⟨hs', by omega⟩]; unfold drainAt; rw [hp]
end Tide
namespace Go.Proofs.Ytgcdomoecikooaa
open Go.RowKit
set_option linter.unusedVariables false
theorem fle_cells_in {w : World} {cs : Array Value} {T : TypeId} {H : Nat} (hH : w.heap.size = H) : ∀ (j : Nat) (u : Value), cs.toList[j]? = some u → (w.alloc (.cells cs T)).cell? ((⟨H, 0, none⟩ : Addr).add j) = some u := by
  subst hH; exact Tide.new_cells w cs T
set_option maxRecDepth 100000 in
set_option maxHeartbeats 1600000 in
theorem creCount (S : Nat → Prop) (g : Nat) (v : Value) (l : List Tide.Pod) (last most : Int) (w : World) (h : FAt 71 S w g v l last most) :
    Calls Try.prog 49 #[.pointer (some ⟨g, 0, none⟩)] w fun e w' => e = .returned (.int .i64 (Tide.liveN l)) ∧ w = w' := by
  obtain ⟨A, cap, rfl, _, _, _⟩ := h.row.slice
  have hc : w.cell? ⟨g, 0, none⟩ = some (.slice A l.length cap) := h.head.here rfl
  have hs := h.small
  have HH := Lib.hid h
  clear h
  go_enter Try.func49, Try.ntmps49
  go_wp2_with fail
  go_loop [3, 4] (fun n i => ∃ k : Nat, k ≤ l.length ∧ i = .int .i64 k ∧ n = .int .i64 (((l.take k).countP Tide.lives : Nat) : Int)) (fun _ i => l.length - (intOf i).toNat)
  case atStart => exact ⟨0, by omega, rfl, by simp⟩
  case round =>
    obtain ⟨k, hk, rfl, rfl⟩ := hrel
    by_cases hlt : k < l.length
    · obtain ⟨p, hp⟩ := Tide.get_some l hlt
      obtain ⟨b, cap', e, hS, _, _, hbl, c0, c1, c2, _⟩ := HH.out.pod hp
      cases e
      have i0 : (0 : Int) ≤ (k : Int) := by omega
      have i1 : (k : Int) < (l.length : Int) := by omega
      have HC := Lib.hid (Tide.count_snoc (p := Tide.lives) hp)
      have hle : (l.take k).countP Tide.lives ≤ 10000000 := Nat.le_trans List.countP_le_length (by rw [List.length_take]; omega)
      generalize (l.take k).countP Tide.lives = N at HC hle ⊢
      have hle' : (N : Int) ≤ 10000000 := by omega
      clear hp hle
      cases hf : (p.state == 4)
      · have hf2 : (p.state != 4) = true := by simp only [bne, hf]; rfl
        have HT := Lib.hid (show Tide.lives p = true by unfold Tide.lives; rw [hf]; rfl)
        go_wp2_with fail
        go_round
        case rel => exact ⟨k + 1, by omega, by go_num, by rw [HC.out, HT.out]; go_num⟩
        case measure => simp [intOf]; omega
      · have hf2 : (p.state != 4) = false := by simp only [bne, hf]; rfl
        have HT := Lib.hid (show Tide.lives p = false by unfold Tide.lives; rw [hf]; rfl)
        go_wp2_with fail
        go_round
        case rel => exact ⟨k + 1, by omega, by go_num, by rw [HC.out, HT.out]; go_num⟩
        case measure => simp [intOf]; omega
    · have hke : k = l.length := by omega
      subst hke
      rw [List.take_length]
      go_wp2_with fail
      go_ret
      exact ⟨rfl, rfl⟩
/-- the list that is built: who stays of the first k -/
structure OutRun (S : Nat → Prop) (w wr : World) (g : Nat) (v : Value) (l : List Tide.Pod) (last most : Int) (o : Value) (q : List Tide.Pod) : Prop where
  fle : FAt 71 S wr g v l last most
  out : Tide.OwnRow (fun b => w.heap.size ≤ b) wr 64 3 o q.length (q.flatMap Tide.Pod.enc)
  chg : Tide.Chg (fun _ => False) w wr
  low : ∀ b, S b → b < w.heap.size
theorem OutRun.app {S : Nat → Prop} {w wr w3 : World} {g b2 cap2 : Nat} {v o : Value} {l q : List Tide.Pod} {last most : Int} {r : Tide.Pod} {ob : Obj} (h : OutRun S w wr g v l last most o q)
    (h1 : w3.ownsRow 0 64 3 (.slice (some ⟨b2, 0, none⟩) (q.length + 1) cap2) (q.length + 1) (q.flatMap Tide.Pod.enc ++ r.enc)) (hg : (wr.alloc ob).grownBy w3 o.ownBlock) (ho : o.ownBlock = some b2 ∨ b2 = wr.heap.size + 1) (hlt : b2 < w3.heap.size) :
    OutRun S w w3 g v l last most (.slice (some ⟨b2, 0, none⟩) (q.length + 1) cap2) (q ++ [r]) := by
  have z : (wr.alloc ob).heap.size = wr.heap.size + 1 := by simp
  have z1 := h.chg.size
  obtain ⟨r1, r2⟩ := (h.out.alloc ob).app h1 hg (ho.imp id (fun e => by rw [e, z])) hlt
  refine ⟨(h.fle.alloc ob).chg r2 (fun b hb hn => by have := h.low b hb; omega), ?_, (h.chg.alloc ob).step r2 (fun b hb => .inr hb), h.low⟩
  rw [List.length_append, List.flatMap_append, List.flatMap_singleton]
  refine r1.mono fun c _ hc => ?_
  rcases hc with hc | hc
  · exact hc
  · omega
def OutPost (T : TypeId) (S : Nat → Prop) (w : World) (g : Nat) (l : List Tide.Pod) (last most : Int) (e : Ending) (w' : World) : Prop :=
  (∃ x, e = .returned x) ∧ (∃ v, FAt T (Tide.Plus S w w') w' g v l last most) ∧ Tide.Chg S w w'
set_option maxRecDepth 100000 in
set_option maxHeartbeats 3200000 in
theorem creOut (S : Nat → Prop) (g : Nat) (v : Value) (l : List Tide.Pod) (last most id : Int) (w : World) (h : FAt 71 S w g v l last most) :
    Calls Try.prog 68 #[.pointer (some ⟨g, 0, none⟩), .int .i64 id] w (OutPost 71 S w g (l.filter (Tide.otherId id)) last most) := by
  obtain ⟨A, cap0, rfl, _, _, _⟩ := h.row.slice
  have hs := h.small
  have HH := Lib.hid h
  have HR0 := Lib.hid (show OutRun S w w g (.slice A l.length cap0) l last most (.slice none 0 0) [] from ⟨h, Tide.OwnRow.nil _ _ _ _, Tide.Chg.refl _ _, h.lim⟩)
  clear h
  obtain ⟨i0, hi, hz0, hz1, hz2⟩ := info_parts fle_info
  go_enter Try.func68, Try.ntmps68
  go_wp2_with fail
  go_loopw [4, 5] (fun o i wr => ∃ k : Nat, k ≤ l.length ∧ i = .int .i64 k ∧ Hid (OutRun S w wr g (.slice A l.length cap0) l last most o ((l.take k).filter (Tide.otherId id)))) (fun _ i _ => l.length - (intOf i).toNat)
  case atStart => exact ⟨0, by omega, rfl, HR0⟩
  case round =>
    clear HR0
    obtain ⟨k, hk, rfl, HR⟩ := hrel
    obtain ⟨A7, c7, rfl, _, _, _⟩ := HR.out.out.slice
    have hc : wr.cell? ⟨g, 0, none⟩ = some (.slice A l.length cap0) := HR.out.fle.head.here rfl
    have f0 := HR.out.fle.head.soft 0
    by_cases hlt : k < l.length
    · obtain ⟨p, hp⟩ := Tide.get_some l hlt
      obtain ⟨b, cap', e, hS, _, _, hbl, c0, c1, c2, _⟩ := HR.out.fle.pod hp
      cases e
      have i0' : (0 : Int) ≤ (k : Int) := by omega
      have i1 : (k : Int) < (l.length : Int) := by omega
      have HSn := Lib.hid (Tide.filter_snoc (p := Tide.otherId id) hp)
      have hfl : ((l.take k).filter (Tide.otherId id)).length ≤ 10000000 := Nat.le_trans (List.length_filter_le _ _) (by rw [List.length_take]; omega)
      generalize (l.take k).filter (Tide.otherId id) = q at HR HSn hfl ⊢
      clear hp f0
      cases hq : (p.id == id)
      · have hq2 : (p.id != id) = true := by simp only [bne, hq]; rfl
        have HE := Lib.hid (show (l.take (k + 1)).filter (Tide.otherId id) = q ++ [p] by rw [HSn.out]; unfold Tide.otherId; rw [hq]; rfl)
        have hm3 := Lib.hid (show q.length + 1 ≤ maxLen by simp only [maxLen]; omega)
        have hm4 := Lib.hid (show (q.length + 1) * 24 ≤ 140737488355328 by omega)
        clear hq hfl
        go_wp2_with (at_builtin; refine wpList_append_lies _ (by rfl) (.tmp 25) (.tmp 33) 58 (by rfl) 0 64 i0 (.agg #[.int .i64 0, .int .i64 0, .int .i64 0]) 3 24 Try.underlying58 hi hz0 hz1 hz2 rfl (by decide) (.slice A7 q.length c7) _ _ rfl (HR.out.out.alloc _).owns ⟨wr.heap.size, 0, none⟩ 1 1 (Tide.Pod.enc p) rfl rfl (fle_cells_in rfl) (by simp [Value.oneCell', Tide.Pod.enc]) (by decide) hm3.out hm4.out (Nat.zero_le _) _ rfl ?_)
        intro b2 cap2 w3 hown hg ho hlt2
        have HN := Lib.hid (HR.out.app hown hg ho hlt2)
        clear hown hg ho hlt2 hc c0 c1 c2
        go_wp2_with fail
        go_roundw
        case rel => exact ⟨k + 1, by omega, by go_num, by rw [HE.out]; exact HN⟩
        case measure => simp [intOf]; omega
      · have hq2 : (p.id != id) = false := by simp only [bne, hq]; rfl
        have HE := Lib.hid (show (l.take (k + 1)).filter (Tide.otherId id) = q by rw [HSn.out]; unfold Tide.otherId; rw [hq]; simp)
        clear hq hfl
        go_wp2_with fail
        go_roundw
        case rel => exact ⟨k + 1, by omega, by go_num, by rw [HE.out]; exact HR⟩
        case measure => simp [intOf]; omega
    · have hke : k = l.length := by omega
      subst hke
      rw [List.take_length] at HR ⊢
      have hfl : (l.filter (Tide.otherId id)).length ≤ 10000000 := Nat.le_trans (List.length_filter_le _ _) hs
      have HFin := Lib.hid (show OutPost 71 S w g (l.filter (Tide.otherId id)) last most (.returned (.tuple #[])) (wr.setCell ⟨g, 0, none⟩ (.slice A7 (l.filter (Tide.otherId id)).length c7)) from by
        have hgl := HR.out.low g HR.out.fle.own
        refine ⟨⟨_, rfl⟩, ⟨_, HR.out.fle.head.put 0 _, ?_, .inl HR.out.fle.own, hfl, fun c hc' => ?_⟩, (HR.out.chg.mono (fun _ _ h => h.elim)).put (.inl HR.out.fle.own) _⟩
        · exact (HR.out.out.mono fun c hc' hb => .inr ⟨hb, by rw [Tide.size_put]; exact hc'⟩ : Tide.OwnRow (Tide.Plus S w (wr.setCell ⟨g, 0, none⟩ (.slice A7 (l.filter (Tide.otherId id)).length c7))) wr _ _ _ _ _).aside (p := ⟨g, 0, none⟩) (HR.out.out.apartAt HR.out.fle.head (by decide)) _
        · rcases hc' with hc' | hc'
          · have := HR.out.fle.lim c hc'; rw [Tide.size_put]; exact this
          · exact hc'.2)
      clear hfl
      go_wp2_with fail
      go_end0
      exact HFin.out
end Go.Proofs.Ytgcdomoecikooaa
