/- The contracts of topic.New and Lags. -/
import Derived.Test.YtgkbdoecpbepbaaTopC
import Derived.Laws.MakeOwn
namespace Go.Proofs.Ytgkbdoecpbepbaa
open Go.RowKit
set_option linter.unusedVariables false

theorem info_int : (Try.prog.info? 3).map (fun i => (i.zero, i.size, i.bytes)) = some (some (.int .i64 0), 1, 8) := by kernel_rfl
theorem info_part : (Try.prog.info? 81).map (fun i => (i.zero, i.size, i.bytes)) = some (some (.agg #[.int .i64 0, .int .i64 0]), 2, 16) := by kernel_rfl

def lagsOf (l : List (Int × Int)) : List Int := l.map fun p => p.1 - p.2
/-- a list of integers in memory of the call's own -/
def OwnInts (B : Nat) (w : World) (v : Value) (xs : List Int) : Prop := w.ownsRow B 3 1 v xs.length (xs.map (Value.int .i64))

def LagsPost (w0 : World) (xs : List Int) (e : Ending) (w' : World) : Prop := ∃ v, e = .returned v ∧ OwnInts w0.heap.size w' v xs ∧ Below w0.heap.size w0 w'

/-- the ends and offsets are numbers in bounds -/
def Small (l : List (Int × Int)) : Prop := ∀ p ∈ l, 0 ≤ p.2 ∧ p.2 ≤ p.1 ∧ p.1 ≤ 1000000000000000

theorem take_lags (l : List (Int × Int)) (k : Nat) (e o : Int) (h : l[k]? = some (e, o)) : lagsOf (l.take (k + 1)) = lagsOf (l.take k) ++ [e - o] := by
  unfold lagsOf
  rw [List.take_add_one, h]
  simp

theorem below_app {w wr w1 : World} {o o' : Obj} {v : Value} {xs : List Int} (hb : Below w.heap.size w wr) (ho : OwnInts w.heap.size wr v xs) (hg : ((wr.alloc o).alloc o').grownBy w1 v.ownBlock) : Below w.heap.size w w1 :=
  (((hb.alloc hb.size _).alloc (by have := hb.size; simp; omega) _)).grown hg (by have := hb.size; simp; omega) (Tide.own_ge ho)
theorem own_lags {l : List (Int × Int)} {k : Nat} {e o : Int} {B : Nat} {w : World} {v : Value} (h : l[k]? = some (e, o))
    (ho : w.ownsRow B 3 1 v ((lagsOf (l.take k)).length + 1) ((lagsOf (l.take k)).map (Value.int .i64) ++ [.int .i64 (e - o)])) : OwnInts B w v (lagsOf (l.take (k + 1))) := by
  rw [take_lags l k e o h]
  unfold OwnInts
  simpa using ho

set_option maxRecDepth 100000 in
set_option maxHeartbeats 800000 in
theorem topLags (g p : Nat) (l : List (Int × Int)) (w : World) (ht : TopicAt w g p l) (hsm : Small l) :
    Calls Try.prog 19 #[.pointer (some ⟨g, 0, none⟩)] w (LagsPost w (lagsOf l)) := by
  have hc : w.cell? ⟨g, 0, none⟩ = some (.slice (some ⟨p, 0, none⟩) l.length l.length) := ht.head.here rfl
  have hs := ht.small
  have hpl := ht.parts.inside
  have HT := Lib.hid ht; have HS := Lib.hid hsm
  obtain ⟨i0, hi, hz0, hz1, hz2⟩ := info_parts info_int
  clear ht hsm
  go_enter Try.func19, Try.ntmps19
  go_wp2_with fail
  go_loopw [3, 11] (fun v i wr => ∃ k : Nat, k ≤ l.length ∧ i = .int .i64 k ∧ Hid (OwnInts w.heap.size wr v (lagsOf (l.take k))) ∧ Below w.heap.size w wr) (fun _ i _ => l.length - (intOf i).toNat)
  case atStart => exact ⟨0, by omega, rfl, ⟨by simp [lagsOf], .inl ⟨rfl, by simp [lagsOf]⟩⟩, Below.refl _ _⟩
  case round =>
    obtain ⟨k, hk, rfl, hown, hbw⟩ := hrel
    by_cases hlt : k < l.length
    · obtain ⟨⟨e, o⟩, hn⟩ : ∃ q, l[k]? = some q := ⟨_, List.getElem?_eq_getElem hlt⟩
      have hmem : (e, o) ∈ l := List.mem_of_getElem? hn
      obtain ⟨o0, o1, e1⟩ := HS.out _ hmem
      simp only at o0 o1 e1
      have hp : wr.cell? ⟨p, k * 2, none⟩ = some (.int .i64 e) := (hbw.cell (p := ⟨p, k * 2, none⟩) hpl).trans (HT.out.parts.here (by simpa using (partCells_get0 l k e o hn).1))
      have hp' : wr.cell? ⟨p, k * 2 + 1, none⟩ = some (.int .i64 o) := (hbw.cell (p := ⟨p, k * 2 + 1, none⟩) hpl).trans (HT.out.parts.here (by simpa using (partCells_get0 l k e o hn).2))
      have HN := Lib.hid hn
      clear hn hmem
      have hlen : Hid ((lagsOf (l.take k)).length = k) := by show _ = _; unfold lagsOf; simp; omega
      go_wp2_with (at_builtin; refine wpList_append_own _ rfl (.tmp 15) (.tmp 21) 29 rfl w.heap.size 3 i0 (.int .i64 0) 1 8 Try.underlying29 hi hz0 hz1 hz2 rfl (by decide) _ _ _ rfl ((hown.out.alloc _).alloc _) ⟨wr.heap.size + 1, 0, none⟩ 1 1 [.int .i64 (e - o)] rfl rfl ?c1 ?c2 ?c3 ?c4 ?c5 ?_)
      case c1 => exact Tide.new_one (by simp)
      case c2 => simp [Value.oneCell']
      case c3 => rw [hlen.out]; simp only [maxLen]; omega
      case c4 => rw [hlen.out]; omega
      case c5 => have := hbw.size; simp; omega
      intro v' w1 hown1 hg1 _
      have hb1 := below_app hbw hown.out hg1
      have ho1 := own_lags HN.out hown1
      clear hown1 hg1 hown hbw hlen hp hp' HN
      go_wp2_with fail
      go_roundw
      case rel => exact ⟨k + 1, by omega, by go_num, ho1, hb1⟩
      case measure => simp [intOf]; omega
    · go_wp2_with fail
      go_ret
      exact ⟨_, rfl, by have := hown.out; rw [List.take_of_length_le (by omega)] at this; exact this, hbw⟩

def NewPost (w0 : World) (n : Nat) (e : Ending) (w' : World) : Prop := ∃ g p : Nat, e = .returned (.tuple #[.pointer (some ⟨g, 0, none⟩), .int .i64 0]) ∧ TopicAt w' g p (List.replicate n (0, 0)) ∧ w0.heap.size ≤ g ∧ w0.heap.size ≤ p ∧ Below w0.heap.size w0 w'

theorem partCells_zero : ∀ n : Nat, partCells (List.replicate n (0, 0)) = List.replicate (n * 2) (.int .i64 0)
  | 0 => rfl
  | n + 1 => by
    rw [List.replicate_succ, show (n + 1) * 2 = n * 2 + 1 + 1 by omega, List.replicate_succ, List.replicate_succ, ← partCells_zero n]
    rfl
theorem madeCells_two (n : Nat) : madeCells #[.int .i64 0, .int .i64 0] (n * 2) = (List.replicate (n * 2) (Value.int .i64 0)).toArray := by
  unfold madeCells
  apply Array.ext
  · simp
  · intro i h1 h2
    have hm : i % 2 = 0 ∨ i % 2 = 1 := by omega
    simp
    rcases hm with hm | hm <;> rw [hm] <;> rfl

set_option maxRecDepth 100000 in
set_option maxHeartbeats 800000 in
theorem topNew (n : Nat) (h0 : 1 ≤ n) (h1 : n ≤ 20) (w : World) :
    Calls Try.prog 12 #[.int .i64 n] w (NewPost w n) := by
  have hmk : ∀ W : World, (Instr.makeSlice 76 (.int .i64 (n : Int)) (.int .i64 (n : Int))).run Try.prog W = .ok (.slice (some ⟨W.heap.size, 0, none⟩) n n) (W.alloc (.cells (partCells (List.replicate n (0, 0))).toArray 81)) := fun W => by
    obtain ⟨i0, hi, hz0, hz1, hz2⟩ := info_parts info_part
    have := run_make (P := Try.prog) W 76 81 i0 _ Try.underlying76 hi hz0 .i64 .i64 n n (by omega) (by omega) (by rw [hz2]; omega) (by omega)
    rw [Int.toNat_natCast, hz1] at this
    rw [this, partCells_zero, ← madeCells_two]
    rfl
  have k0 : (1 : Int) ≤ n := by omega
  have k1 : (n : Int) ≤ 20 := by omega
  obtain ⟨C, hC⟩ : ∃ C, (partCells (List.replicate n (0, 0))).toArray = C := ⟨_, rfl⟩
  rw [hC] at hmk
  have HC := Lib.hid hC
  clear hC
  go_enter Try.func12, Try.ntmps12
  go_wp2_with fail
  go_ret2
  have hp : Tide.At ((w.alloc (.cells C 81)).alloc (.cells #[.slice (some ⟨w.heap.size, 0, none⟩) n n] 78)) w.heap.size 81 C := (Tide.At.made w _ C).alloc _
  have hg : Tide.At ((w.alloc (.cells C 81)).alloc (.cells #[.slice (some ⟨w.heap.size, 0, none⟩) n n] 78)) (w.heap.size + 1) 78 #[.slice (some ⟨w.heap.size, 0, none⟩) n n] := by
    have := Tide.At.made (w.alloc (.cells C 81)) 78 #[.slice (some ⟨w.heap.size, 0, none⟩) n n]
    rw [World.size_alloc] at this
    exact this
  exact ⟨w.heap.size + 1, w.heap.size, rfl, ⟨by rw [List.length_replicate]; exact hg, by rw [HC.out]; exact hp, by simpa using h1⟩, by omega, by omega, ((Below.refl _ _).alloc (Nat.le_refl _) _).alloc (by simp) _⟩

theorem topNew_no (n : Int) (h : n < 1 ∨ 20 < n) (w : World) :
    Calls Try.prog 12 #[.int .i64 n] w fun e w' => e = .returned (.tuple #[.pointer none, .int .i64 1]) ∧ w = w' := by
  by_cases h0 : n < 1
  · clear h
    go_enter Try.func12, Try.ntmps12
    go_wp2
    go_ret2
    exact ⟨rfl, rfl⟩
  · have h1 : 20 < n := by omega
    have h2 : 1 ≤ n := by omega
    clear h h0
    go_enter Try.func12, Try.ntmps12
    go_wp2
    go_ret2
    exact ⟨rfl, rfl⟩
end Go.Proofs.Ytgkbdoecpbepbaa
