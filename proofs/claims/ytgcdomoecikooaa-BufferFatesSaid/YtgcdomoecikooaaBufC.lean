/- The contracts of package buffer: count, Ask. -/
import Derived.Test.YtgcdomoecikooaaRows
import Derived.WalkKit
import Derived.WalkSpells
import Derived.WalkLawsBesides
import Derived.Lib.Hide
import Derived.Handy
import Derived.RegionTactic
import Derived.BigRegion
import Derived.Deep.QuietTactic
import Derived.BigQuiet
import Derived.Deep.RegionLaw
import Derived.Deep.AppendLies
import Derived.Deep.DeepCutAuto
import Derived.Test.YtgcdomoecikooaaBufM
namespace Go.Proofs.Ytgcdomoecikooaa
open Go.RowKit
set_option linter.unusedVariables false

theorem info_req : (Try.prog.info? 42).map (fun i => (i.zero, i.size, i.bytes)) = some (some (.agg #[.int .i64 0, .int .i64 0, .int .i64 0, .int .i64 0, .int .i64 0]), 5, 40) := by kernel_rfl
/-- a buffer (T: its type): its own block g, its requests v -/
structure BAt (T : TypeId) (S : Nat → Prop) (w : World) (g : Nat) (v : Value) (l : List Tide.Req) : Prop where
  head : Tide.At w g T #[v]
  row : Tide.OwnRow S w 42 5 v l.length (l.flatMap Tide.Req.enc)
  own : S g
  small : l.length ≤ 200
  lim : ∀ b, S b → b < w.heap.size
theorem BAt.chg {T : TypeId} {S C : Nat → Prop} {w w' : World} {g : Nat} {v : Value} {l : List Tide.Req} (h : BAt T S w g v l) (hc : Tide.Chg C w w') (hs : ∀ b, S b → ¬ C b) : BAt T S w' g v l :=
  ⟨h.head.chg hc (hs g h.own), h.row.chg hc hs, h.own, h.small, fun b hb => Nat.lt_of_lt_of_le (h.lim b hb) hc.size⟩
theorem BAt.below {T : TypeId} {S : Nat → Prop} {w w' : World} {g : Nat} {v : Value} {l : List Tide.Req} (h : BAt T S w g v l) (hb : Below w.heap.size w w') : BAt T S w' g v l :=
  h.chg (C := fun _ => False) (Tide.Chg.of_below hb (Nat.le_refl _)) (fun _ _ h => h)
theorem BAt.mono {T : TypeId} {S S' : Nat → Prop} {w : World} {g : Nat} {v : Value} {l : List Tide.Req} (h : BAt T S w g v l) (hs : ∀ b, b < w.heap.size → S b → S' b) (hl : ∀ b, S' b → b < w.heap.size) : BAt T S' w g v l :=
  ⟨h.head, h.row.mono hs, hs g h.head.inside h.own, h.small, hl⟩
theorem BAt.up {T : TypeId} {S : Nat → Prop} {w0 w : World} {g : Nat} {v : Value} {l : List Tide.Req} (h : BAt T S w g v l) : BAt T (Tide.Plus S w0 w) w g v l :=
  h.mono (fun _ _ hb => .inl hb) (fun b hb => by rcases hb with hb | hb; exact h.lim b hb; exact hb.2)
theorem BAt.alloc {T : TypeId} {S : Nat → Prop} {w : World} {g : Nat} {v : Value} {l : List Tide.Req} (h : BAt T S w g v l) (o : Obj) : BAt T S (w.alloc o) g v l :=
  ⟨h.head.alloc o, h.row.alloc o, h.own, h.small, fun b hb => by simp; have := h.lim b hb; omega⟩
theorem BAt.drew {T : TypeId} {S : Nat → Prop} {w : World} {g : Nat} {v : Value} {l : List Tide.Req} (h : BAt T S w g v l) : BAt T S w.drew g v l := ⟨h.head.drew, h.row.drew, h.own, h.small, h.lim⟩
/-- one request, cell by cell -/
theorem BAt.req {T : TypeId} {S : Nat → Prop} {w : World} {g : Nat} {v : Value} {l : List Tide.Req} (h : BAt T S w g v l) {k : Nat} {r : Tide.Req} (hk : l[k]? = some r) :
    ∃ b cap, v = .slice (some ⟨b, 0, none⟩) l.length cap ∧ S b ∧ l.length ≤ cap ∧ cap ≤ maxLen ∧ b < w.heap.size ∧ w.cell? ⟨b, k * 5, none⟩ = some (.int .i64 r.id) ∧ w.cell? ⟨b, k * 5 + 1, none⟩ = some (.int .i64 r.source) ∧ w.cell? ⟨b, k * 5 + 2, none⟩ = some (.int .i64 r.till) ∧
      w.cell? ⟨b, k * 5 + 3, none⟩ = some (.int .i64 r.fate) ∧ w.cell? ⟨b, k * 5 + 4, none⟩ = some (.int .i64 r.pod) ∧ (∀ i, w.frozen? ⟨b, i, none⟩ = false) := by
  obtain ⟨b, cap, e, hS, h1, h2, h3⟩ := h.row.form (by have := Tide.get_lt hk; omega)
  exact ⟨b, cap, e, hS, h1, h2, h3.inside, h3.cell (Tide.flat_get (j := 0) Tide.Req.enc_length hk rfl), h3.cell (Tide.flat_get (j := 1) Tide.Req.enc_length hk rfl), h3.cell (Tide.flat_get (j := 2) Tide.Req.enc_length hk rfl), h3.cell (Tide.flat_get (j := 3) Tide.Req.enc_length hk rfl), h3.cell (Tide.flat_get (j := 4) Tide.Req.enc_length hk rfl), h3.soft⟩
theorem BAt.apart {T : TypeId} {S : Nat → Prop} {w : World} {g : Nat} {v : Value} {l : List Tide.Req} (h : BAt T S w g v l) (hT : T ≠ 42) : ∀ b, v.ownBlock = some b → b ≠ g := h.row.apartAt h.head (Ne.symm hT)
/-- one cell of a request is stored -/
theorem BAt.put {T : TypeId} {S : Nat → Prop} {w : World} {g b cap n : Nat} {l : List Tide.Req} (h : BAt T S w g (.slice (some ⟨b, 0, none⟩) n cap) l) (hT : T ≠ 42) {k j : Nat} {r r' : Tide.Req} {u : Value} (hk : l[k]? = some r) (hj : j < 5) (hu : r.enc.set j u = r'.enc) :
    BAt T S (w.setCell ⟨b, k * 5 + j, none⟩ u) g (.slice (some ⟨b, 0, none⟩) n cap) (l.set k r') ∧ Tide.Chg S w (w.setCell ⟨b, k * 5 + j, none⟩ u) := by
  have hkl := Tide.get_lt hk
  obtain ⟨b', cap', e, hS, _⟩ := h.row.form (by omega)
  cases e
  have hgb : b ≠ g := h.apart hT b rfl
  have p1 := h.row.put (Tide.flat_lt Tide.Req.enc_length hkl hj) u
  rw [Tide.flat_set Tide.Req.enc_length hk hj hu] at p1
  refine ⟨⟨h.head.other (p := ⟨b, k * 5 + j, none⟩) (Ne.symm hgb) _, ?_, h.own, by rw [List.length_set]; exact h.small, fun c hc => by rw [Tide.size_put]; exact h.lim c hc⟩, (Tide.Chg.refl S w).put (p := ⟨b, k * 5 + j, none⟩) (.inl hS) _⟩
  rw [List.length_set]; exact p1

def ReadPost (w : World) (v : Value) (e : Ending) (w' : World) : Prop := e = .returned v ∧ Below w.heap.size w w'
set_option maxRecDepth 100000 in
set_option maxHeartbeats 1600000 in
theorem bufCount (S : Nat → Prop) (g : Nat) (v : Value) (l : List Tide.Req) (src fate : Int) (w : World) (h : BAt 74 S w g v l) :
    Calls Try.prog 50 #[.pointer (some ⟨g, 0, none⟩), .int .i64 src, .int .i64 fate] w (ReadPost w (.int .i64 (Tide.countF src fate l))) := by
  obtain ⟨A, cap, rfl, _, _, _⟩ := h.row.slice
  have hc : w.cell? ⟨g, 0, none⟩ = some (.slice A l.length cap) := h.head.here rfl
  have hs := h.small
  have HH := Lib.hid h
  clear h
  go_enter Try.func50, Try.ntmps50
  go_wp2_with fail
  go_loopw [7, 15] (fun n i wr => ∃ k : Nat, k ≤ l.length ∧ i = .int .i64 k ∧ n = .int .i64 (((l.take k).countP (Tide.hasF src fate) : Nat) : Int) ∧ Below w.heap.size w wr) (fun _ i _ => l.length - (intOf i).toNat)
  case atStart => exact ⟨0, by omega, rfl, by simp, Below.refl _ _⟩
  case round =>
    clear hc
    obtain ⟨k, hk, rfl, rfl, hb⟩ := hrel
    by_cases hlt : k < l.length
    · obtain ⟨r, hr⟩ := Tide.get_some l hlt
      obtain ⟨b, cap', e, hS, _, _, hbl, c0, c1, c2, c3, c4, _⟩ := (HH.out.below hb).req hr
      cases e
      have i0 : (0 : Int) ≤ (k : Int) := by omega
      have i1 : (k : Int) < (l.length : Int) := by omega
      have HC := Lib.hid (Tide.count_snoc (p := Tide.hasF src fate) hr)
      have hle : (l.take k).countP (Tide.hasF src fate) ≤ 200 := Nat.le_trans List.countP_le_length (by rw [List.length_take]; omega)
      generalize (l.take k).countP (Tide.hasF src fate) = N at HC hle ⊢
      have hle' : (N : Int) ≤ 200 := by omega
      have HB := Lib.hid (hb.alloc hb.size (.cells #[.int .i64 r.id, .int .i64 r.source, .int .i64 r.till, .int .i64 r.fate, .int .i64 r.pod] 42))
      clear hr hb hle
      cases hf : (r.fate == fate)
      · have HT := Lib.hid (show Tide.hasF src fate r = false by unfold Tide.hasF; rw [hf]; rfl)
        go_wp2_with fail
        go_roundw
        case rel => exact ⟨k + 1, by omega, by go_num, by rw [HC.out, HT.out]; go_num, HB.out⟩
        case measure => simp [intOf]; omega
      · by_cases hsrc : src < 0
        · have HT := Lib.hid (show Tide.hasF src fate r = true by unfold Tide.hasF; rw [hf]; simp [hsrc])
          go_wp2_with fail
          go_roundw
          case rel => exact ⟨k + 1, by omega, by go_num, by rw [HC.out, HT.out]; go_num, HB.out⟩
          case measure => simp [intOf]; omega
        · have hsrc' : 0 ≤ src := by omega
          cases hg : (r.source == src)
          · have HT := Lib.hid (show Tide.hasF src fate r = false by unfold Tide.hasF; rw [hf, hg]; simp [hsrc])
            clear hsrc
            go_wp2_with fail
            go_roundw
            case rel => exact ⟨k + 1, by omega, by go_num, by rw [HC.out, HT.out]; go_num, HB.out⟩
            case measure => simp [intOf]; omega
          · have HT := Lib.hid (show Tide.hasF src fate r = true by unfold Tide.hasF; rw [hf, hg]; simp)
            clear hsrc
            go_wp2_with fail
            go_roundw
            case rel => exact ⟨k + 1, by omega, by go_num, by rw [HC.out, HT.out]; go_num, HB.out⟩
            case measure => simp [intOf]; omega
    · have hke : k = l.length := by omega
      subst hke
      have HB := Lib.hid hb
      clear hb
      rw [List.take_length]
      go_wp2_with fail
      go_ret
      exact ⟨rfl, HB.out⟩
end Go.Proofs.Ytgcdomoecikooaa
