/- What a buffer does, as plain functions on lists. Plain facts on requests: numbered, free, who is next. The contracts of package buffer: count, Ask. The contract of Ask. The contracts of first, find, Next, Count, All. The contracts of Run, Done. The contract of end; Late, Lost. The contracts of Late, Lost. New; slices.Contains at a list of numbers. The plain law of BufferPlays: what holds of the requests at each turn; who is next. The plain law of BufferFates: how requests go on. -/
import Derived.Test.YtlfaogkdghnmcaaGreatZBase
import Derived.Test.YtlfaogkdghnmcaaGreatRows
import Derived.WalkKit
import Derived.WalkSpells
import Derived.WalkLawsBesides
import Derived.Lib.Hide
import Derived.Handy
import Derived.RegionTactic
import Derived.BigRegion
import Derived.Deep.QuietTactic
import Derived.BigQuiet
import Derived.Deep.RegionLaw
import Derived.Deep.AppendLies
import Derived.Deep.DeepCutAuto

set_option linter.unusedVariables false
set_option linter.unusedSimpArgs false
namespace Tide
open Go
/-- a request -/
structure Req where
  id : Int
  source : Int
  till : Int
  fate : Int
  pod : Int
  deriving DecidableEq
def Req.enc (r : Req) : List Value := [.int .i64 r.id, .int .i64 r.source, .int .i64 r.till, .int .i64 r.fate, .int .i64 r.pod]
theorem Req.enc_length (r : Req) : r.enc.length = 5 := rfl
/-- of a source (below 0: of any) with a fate -/
def hasF (src fate : Int) (r : Req) : Bool := (r.fate == fate) && (decide (src < 0) || (r.source == src))
def countF (src fate : Int) (l : List Req) : Int := (l.countP (hasF src fate) : Nat)
def askErr (l : List Req) (now src ticks : Int) : Int :=
  if now < 0 ∨ 1099511627776 < now ∨ ticks < 1 ∨ 100000 < ticks then 1 else if src < 0 ∨ 6 ≤ src then 4 else if countF src 1 l = 20 ∨ countF (-1) 1 l = 60 ∨ l.length = 200 then 6 else 0
def askLst (l : List Req) (now src ticks : Int) : List Req := if askErr l now src ticks = 0 then l ++ [⟨l.length + 1, src, now + ticks, 1, 0⟩] else l
def askNum (l : List Req) (now src ticks : Int) : Int := if askErr l now src ticks = 0 then l.length + 1 else 0
/-- those that something holds of get a fate -/
def setF (p : Req → Bool) (fate : Int) (r : Req) : Req := if p r then { r with fate := fate } else r
def idsF (p : Req → Bool) (l : List Req) : List Int := (l.filter p).map (·.id)
def isLate (now : Int) (r : Req) : Bool := (r.fate == 1) && decide (r.till ≤ now)
def isLost (pod : Int) (r : Req) : Bool := (r.fate == 2) && (r.pod == pod)
def timeOk (now : Int) : Bool := decide (0 ≤ now) && decide (now ≤ 1099511627776)
def lateLst (l : List Req) (now : Int) : List Req := if timeOk now then l.map (setF (isLate now) 4) else l
def lateIds (l : List Req) (now : Int) : List Int := if timeOk now then idsF (isLate now) l else []
def lateErr (now : Int) : Int := if timeOk now then 0 else 1
def lostLst (l : List Req) (pod : Int) : List Req := l.map (setF (isLost pod) 5)
def waitsOf (src : Int) (r : Req) : Bool := (r.source == src) && (r.fate == 1)
def firstN (l : List Req) (src : Int) : Int := if 0 < countF src 2 l then 0 else match firstAt (waitsOf src) l with | none => 0 | some i => ((l[i]?).map (·.id)).getD 0
def bestStep (l : List Req) (best : Int) (s : Nat) : Int := if 0 < firstN l s ∧ (best = 0 ∨ firstN l s < best) then firstN l s else best
def nextN (l : List Req) : Int := (List.range 6).foldl (bestStep l) 0
def reqAt (l : List Req) (id : Int) : Option Req := if 1 ≤ id then l[(id - 1).toNat]? else none
def runErr (l : List Req) (id : Int) : Int := match reqAt l id with | none => 4 | some r => if firstN l r.source = id then 0 else 7
def runLst (l : List Req) (id pod : Int) : List Req := match reqAt l id with | none => l | some r => if firstN l r.source = id then l.set (id - 1).toNat { r with fate := 2, pod := pod } else l
def doneErr (l : List Req) (id : Int) : Int := match reqAt l id with | none => 4 | some r => if r.fate = 2 then 0 else 7
def doneNum (l : List Req) (id : Int) : Int := match reqAt l id with | none => 0 | some r => if r.fate = 2 then r.pod else 0
def doneLst (l : List Req) (id : Int) : List Req := match reqAt l id with | none => l | some r => if r.fate = 2 then l.set (id - 1).toNat { r with fate := 3 } else l
end Tide


namespace Tide
/-- number n is at n-1; of a source -/
def Numbered (l : List Req) : Prop := ∀ (k : Nat) (r : Req), l[k]? = some r → r.id = (k : Int) + 1 ∧ 0 ≤ r.source ∧ r.source < 6
def freeF (l : List Req) (r : Req) : Bool := (r.fate == 1) && (countF r.source 2 l == 0)
def nextH (l : List Req) : Int := match firstAt (freeF l) l with | none => 0 | some i => (i : Int) + 1
theorem countF_nn (s f : Int) (l : List Req) : 0 ≤ countF s f l := by unfold countF; omega
theorem firstN_is {l : List Req} {k : Nat} {r : Req} (hn : Numbered l) (hr : l[k]? = some r) : (firstN l r.source = (k : Int) + 1) ↔ (freeF l r && !((l.take k).any (waitsOf r.source))) = true := by
  have hp := countF_nn r.source 2 l
  unfold firstN freeF
  by_cases hc : 0 < countF r.source 2 l
  · rw [if_pos hc]
    have h2 : (countF r.source 2 l == 0) = false := by simp only [beq_eq_false_iff_ne]; omega
    rw [h2]
    simp; omega
  · rw [if_neg hc]
    have h2 : (countF r.source 2 l == 0) = true := by simp only [beq_iff_eq]; omega
    rw [h2, Bool.and_true]
    cases hf : firstAt (waitsOf r.source) l with
    | none =>
      have := firstAt_miss hf k r hr
      unfold waitsOf at this
      have h3 : (r.fate == 1) = false := by simpa using this
      rw [h3]; simp; omega
    | some i =>
      obtain ⟨a, h1, h2, h3⟩ := firstAt_spec hf
      simp only
      rw [h1]
      show a.id = _ ↔ _
      rw [(hn i a h1).1]
      constructor
      · intro e
        have e' : i = k := by omega
        subst e'
        rw [hr] at h1; cases h1
        unfold waitsOf at h2
        have h4 : (r.fate == 1) = true := by simpa using h2
        rw [h4, Bool.true_and]
        have : (l.take i).any (waitsOf r.source) = false := by
          rw [List.any_eq_false]
          intro x hx
          obtain ⟨j, hj⟩ := List.mem_iff_getElem?.1 hx
          rw [List.getElem?_take] at hj
          split at hj
          · rename_i hji; simp [h3 j x hji hj]
          · cases hj
        rw [this]; rfl
      · intro e
        rw [Bool.and_eq_true] at e
        obtain ⟨e1, e2⟩ := e
        have h5 : waitsOf r.source r = true := by unfold waitsOf; rw [e1]; simp
        have e3 : (l.take k).any (waitsOf r.source) = false := by simpa using e2
        rw [List.any_eq_false] at e3
        rcases Nat.lt_trichotomy i k with c | c | c
        · exact absurd h2 (e3 a (List.mem_of_getElem? (i := i) (by rw [List.getElem?_take, if_pos c]; exact h1)))
        · omega
        · have := h3 k r c hr
          rw [h5] at this; cases this
end Tide


namespace Go.Proofs.YtlfaogkdghnmcaaGreat
open Go.RowKit
set_option linter.unusedVariables false

theorem info_req : (Tryz.prog.info? 55).map (fun i => (i.zero, i.size, i.bytes)) = some (some (.agg #[.int .i64 0, .int .i64 0, .int .i64 0, .int .i64 0, .int .i64 0]), 5, 40) := by kernel_rfl
/-- a buffer (T: its type): its own block g, its requests v -/
structure BAt (T : TypeId) (S : Nat → Prop) (w : World) (g : Nat) (v : Value) (l : List Tide.Req) : Prop where
  head : Tide.At w g T #[v]
  row : Tide.OwnRow S w 55 5 v l.length (l.flatMap Tide.Req.enc)
  own : S g
  small : l.length ≤ 200
  lim : ∀ b, S b → b < w.heap.size
theorem BAt.chg {T : TypeId} {S C : Nat → Prop} {w w' : World} {g : Nat} {v : Value} {l : List Tide.Req} (h : BAt T S w g v l) (hc : Tide.Chg C w w') (hs : ∀ b, S b → ¬ C b) : BAt T S w' g v l :=
  ⟨h.head.chg hc (hs g h.own), h.row.chg hc hs, h.own, h.small, fun b hb => Nat.lt_of_lt_of_le (h.lim b hb) hc.size⟩
theorem BAt.below {T : TypeId} {S : Nat → Prop} {w w' : World} {g : Nat} {v : Value} {l : List Tide.Req} (h : BAt T S w g v l) (hb : Below w.heap.size w w') : BAt T S w' g v l :=
  h.chg (C := fun _ => False) (Tide.Chg.of_below hb (Nat.le_refl _)) (fun _ _ h => h)
theorem BAt.mono {T : TypeId} {S S' : Nat → Prop} {w : World} {g : Nat} {v : Value} {l : List Tide.Req} (h : BAt T S w g v l) (hs : ∀ b, b < w.heap.size → S b → S' b) (hl : ∀ b, S' b → b < w.heap.size) : BAt T S' w g v l :=
  ⟨h.head, h.row.mono hs, hs g h.head.inside h.own, h.small, hl⟩
theorem BAt.up {T : TypeId} {S : Nat → Prop} {w0 w : World} {g : Nat} {v : Value} {l : List Tide.Req} (h : BAt T S w g v l) : BAt T (Tide.Plus S w0 w) w g v l :=
  h.mono (fun _ _ hb => .inl hb) (fun b hb => by rcases hb with hb | hb; exact h.lim b hb; exact hb.2)
theorem BAt.alloc {T : TypeId} {S : Nat → Prop} {w : World} {g : Nat} {v : Value} {l : List Tide.Req} (h : BAt T S w g v l) (o : Obj) : BAt T S (w.alloc o) g v l :=
  ⟨h.head.alloc o, h.row.alloc o, h.own, h.small, fun b hb => by simp; have := h.lim b hb; omega⟩
theorem BAt.drew {T : TypeId} {S : Nat → Prop} {w : World} {g : Nat} {v : Value} {l : List Tide.Req} (h : BAt T S w g v l) : BAt T S w.drew g v l := ⟨h.head.drew, h.row.drew, h.own, h.small, h.lim⟩
/-- one request, cell by cell -/
theorem BAt.req {T : TypeId} {S : Nat → Prop} {w : World} {g : Nat} {v : Value} {l : List Tide.Req} (h : BAt T S w g v l) {k : Nat} {r : Tide.Req} (hk : l[k]? = some r) :
    ∃ b cap, v = .slice (some ⟨b, 0, none⟩) l.length cap ∧ S b ∧ l.length ≤ cap ∧ cap ≤ maxLen ∧ b < w.heap.size ∧ w.cell? ⟨b, k * 5, none⟩ = some (.int .i64 r.id) ∧ w.cell? ⟨b, k * 5 + 1, none⟩ = some (.int .i64 r.source) ∧ w.cell? ⟨b, k * 5 + 2, none⟩ = some (.int .i64 r.till) ∧
      w.cell? ⟨b, k * 5 + 3, none⟩ = some (.int .i64 r.fate) ∧ w.cell? ⟨b, k * 5 + 4, none⟩ = some (.int .i64 r.pod) ∧ (∀ i, w.frozen? ⟨b, i, none⟩ = false) := by
  obtain ⟨b, cap, e, hS, h1, h2, h3⟩ := h.row.form (by have := Tide.get_lt hk; omega)
  exact ⟨b, cap, e, hS, h1, h2, h3.inside, h3.cell (Tide.flat_get (j := 0) Tide.Req.enc_length hk rfl), h3.cell (Tide.flat_get (j := 1) Tide.Req.enc_length hk rfl), h3.cell (Tide.flat_get (j := 2) Tide.Req.enc_length hk rfl), h3.cell (Tide.flat_get (j := 3) Tide.Req.enc_length hk rfl), h3.cell (Tide.flat_get (j := 4) Tide.Req.enc_length hk rfl), h3.soft⟩
theorem BAt.apart {T : TypeId} {S : Nat → Prop} {w : World} {g : Nat} {v : Value} {l : List Tide.Req} (h : BAt T S w g v l) (hT : T ≠ 55) : ∀ b, v.ownBlock = some b → b ≠ g := h.row.apartAt h.head (Ne.symm hT)
/-- one cell of a request is stored -/
theorem BAt.put {T : TypeId} {S : Nat → Prop} {w : World} {g b cap n : Nat} {l : List Tide.Req} (h : BAt T S w g (.slice (some ⟨b, 0, none⟩) n cap) l) (hT : T ≠ 55) {k j : Nat} {r r' : Tide.Req} {u : Value} (hk : l[k]? = some r) (hj : j < 5) (hu : r.enc.set j u = r'.enc) :
    BAt T S (w.setCell ⟨b, k * 5 + j, none⟩ u) g (.slice (some ⟨b, 0, none⟩) n cap) (l.set k r') ∧ Tide.Chg S w (w.setCell ⟨b, k * 5 + j, none⟩ u) := by
  have hkl := Tide.get_lt hk
  obtain ⟨b', cap', e, hS, _⟩ := h.row.form (by omega)
  cases e
  have hgb : b ≠ g := h.apart hT b rfl
  have p1 := h.row.put (Tide.flat_lt Tide.Req.enc_length hkl hj) u
  rw [Tide.flat_set Tide.Req.enc_length hk hj hu] at p1
  refine ⟨⟨h.head.other (p := ⟨b, k * 5 + j, none⟩) (Ne.symm hgb) _, ?_, h.own, by rw [List.length_set]; exact h.small, fun c hc => by rw [Tide.size_put]; exact h.lim c hc⟩, (Tide.Chg.refl S w).put (p := ⟨b, k * 5 + j, none⟩) (.inl hS) _⟩
  rw [List.length_set]; exact p1

def ReadPost (w : World) (v : Value) (e : Ending) (w' : World) : Prop := e = .returned v ∧ Below w.heap.size w w'
set_option maxRecDepth 100000 in
set_option maxHeartbeats 1600000 in
theorem bufCount (S : Nat → Prop) (g : Nat) (v : Value) (l : List Tide.Req) (src fate : Int) (w : World) (h : BAt 151 S w g v l) :
    Calls Tryz.prog 107 #[.pointer (some ⟨g, 0, none⟩), .int .i64 src, .int .i64 fate] w (ReadPost w (.int .i64 (Tide.countF src fate l))) := by
  obtain ⟨A, cap, rfl, _, _, _⟩ := h.row.slice
  have hc : w.cell? ⟨g, 0, none⟩ = some (.slice A l.length cap) := h.head.here rfl
  have hs := h.small
  have HH := Lib.hid h
  clear h
  go_enter Tryz.func107, Tryz.ntmps107
  go_wp2_with fail
  go_loopw [7, 15] (fun n i wr => ∃ k : Nat, k ≤ l.length ∧ i = .int .i64 k ∧ n = .int .i64 (((l.take k).countP (Tide.hasF src fate) : Nat) : Int) ∧ Below w.heap.size w wr) (fun _ i _ => l.length - (intOf i).toNat)
  case atStart => exact ⟨0, by omega, rfl, by simp, Below.refl _ _⟩
  case round =>
    clear hc
    obtain ⟨k, hk, rfl, rfl, hb⟩ := hrel
    by_cases hlt : k < l.length
    · obtain ⟨r, hr⟩ := Tide.get_some l hlt
      obtain ⟨b, cap', e, hS, _, _, hbl, c0, c1, c2, c3, c4, _⟩ := (HH.out.below hb).req hr
      cases e
      have i0 : (0 : Int) ≤ (k : Int) := by omega
      have i1 : (k : Int) < (l.length : Int) := by omega
      have HC := Lib.hid (Tide.count_snoc (p := Tide.hasF src fate) hr)
      have hle : (l.take k).countP (Tide.hasF src fate) ≤ 200 := Nat.le_trans List.countP_le_length (by rw [List.length_take]; omega)
      generalize (l.take k).countP (Tide.hasF src fate) = N at HC hle ⊢
      have hle' : (N : Int) ≤ 200 := by omega
      have HB := Lib.hid (hb.alloc hb.size (.cells #[.int .i64 r.id, .int .i64 r.source, .int .i64 r.till, .int .i64 r.fate, .int .i64 r.pod] 55))
      clear hr hb hle
      cases hf : (r.fate == fate)
      · have HT := Lib.hid (show Tide.hasF src fate r = false by unfold Tide.hasF; rw [hf]; rfl)
        go_wp2_with fail
        go_roundw
        case rel => exact ⟨k + 1, by omega, by go_num, by rw [HC.out, HT.out]; go_num, HB.out⟩
        case measure => simp [intOf]; omega
      · by_cases hsrc : src < 0
        · have HT := Lib.hid (show Tide.hasF src fate r = true by unfold Tide.hasF; rw [hf]; simp [hsrc])
          go_wp2_with fail
          go_roundw
          case rel => exact ⟨k + 1, by omega, by go_num, by rw [HC.out, HT.out]; go_num, HB.out⟩
          case measure => simp [intOf]; omega
        · have hsrc' : 0 ≤ src := by omega
          cases hg : (r.source == src)
          · have HT := Lib.hid (show Tide.hasF src fate r = false by unfold Tide.hasF; rw [hf, hg]; simp [hsrc])
            clear hsrc
            go_wp2_with fail
            go_roundw
            case rel => exact ⟨k + 1, by omega, by go_num, by rw [HC.out, HT.out]; go_num, HB.out⟩
            case measure => simp [intOf]; omega
          · have HT := Lib.hid (show Tide.hasF src fate r = true by unfold Tide.hasF; rw [hf, hg]; simp)
            clear hsrc
            go_wp2_with fail
            go_roundw
            case rel => exact ⟨k + 1, by omega, by go_num, by rw [HC.out, HT.out]; go_num, HB.out⟩
            case measure => simp [intOf]; omega
    · have hke : k = l.length := by omega
      subst hke
      have HB := Lib.hid hb
      clear hb
      rw [List.take_length]
      go_wp2_with fail
      go_ret
      exact ⟨rfl, HB.out⟩
end Go.Proofs.YtlfaogkdghnmcaaGreat


namespace Go.Proofs.YtlfaogkdghnmcaaGreat
open Go.RowKit
set_option linter.unusedVariables false

theorem buf_cells_in {w : World} {cs : Array Value} {T : TypeId} {H : Nat} (hH : w.heap.size = H) : ∀ (j : Nat) (u : Value), cs.toList[j]? = some u → (w.alloc (.cells cs T)).cell? ((⟨H, 0, none⟩ : Addr).add j) = some u := by
  subst hH; exact Tide.new_cells w cs T
/-- a request is appended -/
theorem BAt.app {T : TypeId} {S : Nat → Prop} {w w1 : World} {g b cap : Nat} {l : List Tide.Req} {v : Value} {r : Tide.Req} {o : Obj} (h : BAt T S w g v l) (hT : T ≠ 55) (hl : l.length < 200)
    (h1 : w1.ownsRow 0 55 5 (.slice (some ⟨b, 0, none⟩) (l.length + 1) cap) (l.length + 1) (l.flatMap Tide.Req.enc ++ r.enc)) (hg : (w.alloc o).grownBy w1 v.ownBlock) (ho : v.ownBlock = some b ∨ b = w.heap.size + 1) (hlt : b < w1.heap.size) :
    (w1.cell? ⟨g, 0, none⟩ = some v ∧ w1.frozen? ⟨g, 0, none⟩ = false) ∧
    BAt T (Tide.Plus S w (w1.setCell ⟨g, 0, none⟩ (.slice (some ⟨b, 0, none⟩) (l.length + 1) cap))) (w1.setCell ⟨g, 0, none⟩ (.slice (some ⟨b, 0, none⟩) (l.length + 1) cap)) g (.slice (some ⟨b, 0, none⟩) (l.length + 1) cap) (l ++ [r]) ∧
    Tide.Chg S w (w1.setCell ⟨g, 0, none⟩ (.slice (some ⟨b, 0, none⟩) (l.length + 1) cap)) := by
  have z : (w.alloc o).heap.size = w.heap.size + 1 := by simp
  obtain ⟨r1, r2⟩ := (h.row.alloc o).app h1 hg (ho.imp id (fun e => by rw [e, z])) hlt
  have hA := (h.head.alloc o).grown hg (fun e => h.row.apartAt h.head (Ne.symm hT) g e rfl)
  have z2 := r2.size
  have e1 : (l ++ [r]).length = l.length + 1 := by simp
  have e2 : (l ++ [r]).flatMap Tide.Req.enc = l.flatMap Tide.Req.enc ++ r.enc := by simp
  refine ⟨⟨hA.here rfl, hA.soft 0⟩, ⟨hA.put 0 _, ?_, .inl h.own, by rw [e1]; omega, fun c hb => ?_⟩, ((Tide.Chg.refl S w).alloc o).trans (r2.put (.inl h.own) _)⟩
  · rw [e1, e2]
    refine (r1.mono fun c hc hb => ?_).aside (p := ⟨g, 0, none⟩) (r1.apartAt hA (Ne.symm hT)) _
    rcases hb with hb | hb
    · exact .inl hb
    · exact .inr ⟨by omega, by rw [Tide.size_put]; exact hc⟩
  · rcases hb with hb | hb
    · have := h.lim c hb
      rw [Tide.size_put]; omega
    · exact hb.2

def AskPost (T : TypeId) (S : Nat → Prop) (w : World) (g : Nat) (l : List Tide.Req) (now src ticks : Int) (e : Ending) (w' : World) : Prop :=
  e = .returned (.tuple #[.int .i64 (Tide.askNum l now src ticks), .int .i64 (Tide.askErr l now src ticks)]) ∧ (∃ v, BAt T (Tide.Plus S w w') w' g v (Tide.askLst l now src ticks)) ∧ Tide.Chg S w w'
theorem ask_no {T : TypeId} {S : Nat → Prop} {w w' : World} {g : Nat} {v : Value} {l : List Tide.Req} {now src ticks x : Int} (h : BAt T S w g v l) (hb : Below w.heap.size w w') (hx : x ≠ 0) (he : Tide.askErr l now src ticks = x) : AskPost T S w g l now src ticks (.returned (.tuple #[.int .i64 0, .int .i64 x])) w' := by
  refine ⟨by unfold Tide.askNum; rw [he, if_neg hx], ⟨v, ?_⟩, Tide.Chg.of_below hb (Nat.le_refl _)⟩
  unfold Tide.askLst; rw [he, if_neg hx]
  exact (h.below hb).up
theorem ask_yes {T : TypeId} {S : Nat → Prop} {w w1 w' : World} {g : Nat} {v : Value} {l : List Tide.Req} {now src ticks : Int} (hb : Below w.heap.size w w1) (h : BAt T (Tide.Plus S w1 w') w' g v (l ++ [⟨l.length + 1, src, now + ticks, 1, 0⟩])) (hc : Tide.Chg S w1 w') (hl : ∀ b, S b → b < w.heap.size) (he : Tide.askErr l now src ticks = 0) : AskPost T S w g l now src ticks (.returned (.tuple #[.int .i64 (l.length + 1), .int .i64 0])) w' := by
  have z1 := hb.size; have z2 := hc.size
  refine ⟨by unfold Tide.askNum; rw [he, if_pos rfl], ⟨v, ?_⟩, (Tide.Chg.of_below hb (Nat.le_refl _)).trans hc⟩
  unfold Tide.askLst; rw [he, if_pos rfl]
  refine h.mono (fun c hc hb => ?_) (fun c hb => ?_)
  · rcases hb with hb | hb
    · exact .inl hb
    · exact .inr ⟨by omega, hb.2⟩
  · rcases hb with hb | hb
    · have := hl c hb; omega
    · exact hb.2
set_option maxRecDepth 100000 in
set_option maxHeartbeats 6400000 in
theorem bufAsk (S : Nat → Prop) (g : Nat) (v : Value) (l : List Tide.Req) (now src ticks : Int) (w : World) (h : BAt 151 S w g v l) :
    Calls Tryz.prog 63 #[.pointer (some ⟨g, 0, none⟩), .int .i64 now, .int .i64 src, .int .i64 ticks] w (AskPost 151 S w g l now src ticks) := by
  obtain ⟨A, cap0, rfl, _, _, _⟩ := h.row.slice
  have hs := h.small
  have HH := Lib.hid h
  clear h
  by_cases q1 : now < 0
  · have HF := Lib.hid (ask_no (now := now) (src := src) (ticks := ticks) HH.out (Below.refl _ _) (x := 1) (by decide) (by unfold Tide.askErr; rw [if_pos (by omega)]))
    go_enter Tryz.func63, Tryz.ntmps63
    go_wp2_with fail
    go_ret2
    exact HF.out
  by_cases q2 : 1099511627776 < now
  · have HF := Lib.hid (ask_no (now := now) (src := src) (ticks := ticks) HH.out (Below.refl _ _) (x := 1) (by decide) (by unfold Tide.askErr; rw [if_pos (by omega)]))
    have q1' : 0 ≤ now := by omega
    clear q1
    go_enter Tryz.func63, Tryz.ntmps63
    go_wp2_with fail
    go_ret2
    exact HF.out
  have q1' : 0 ≤ now := by omega
  have q2' : now ≤ 1099511627776 := by omega
  clear q1 q2
  by_cases q3 : ticks < 1
  · have HF := Lib.hid (ask_no (now := now) (src := src) (ticks := ticks) HH.out (Below.refl _ _) (x := 1) (by decide) (by unfold Tide.askErr; rw [if_pos (by omega)]))
    go_enter Tryz.func63, Tryz.ntmps63
    go_wp2_with fail
    go_ret2
    exact HF.out
  by_cases q4 : 100000 < ticks
  · have HF := Lib.hid (ask_no (now := now) (src := src) (ticks := ticks) HH.out (Below.refl _ _) (x := 1) (by decide) (by unfold Tide.askErr; rw [if_pos (by omega)]))
    have q3' : 1 ≤ ticks := by omega
    clear q3
    go_enter Tryz.func63, Tryz.ntmps63
    go_wp2_with fail
    go_ret2
    exact HF.out
  have q3' : 1 ≤ ticks := by omega
  have q4' : ticks ≤ 100000 := by omega
  clear q3 q4
  by_cases q5 : src < 0
  · have HF := Lib.hid (ask_no (now := now) (src := src) (ticks := ticks) HH.out (Below.refl _ _) (x := 4) (by decide) (by unfold Tide.askErr; rw [if_neg (by omega), if_pos (by omega)]))
    go_enter Tryz.func63, Tryz.ntmps63
    go_wp2_with fail
    go_ret2
    exact HF.out
  have q5' : 0 ≤ src := by omega
  clear q5
  by_cases q6 : 6 ≤ src
  · have HF := Lib.hid (ask_no (now := now) (src := src) (ticks := ticks) HH.out (Below.refl _ _) (x := 4) (by decide) (by unfold Tide.askErr; rw [if_neg (by omega), if_pos (by omega)]))
    go_enter Tryz.func63, Tryz.ntmps63
    go_wp2_with fail
    go_ret2
    exact HF.out
  have q6' : src < 6 := by omega
  clear q6
  have HE := Lib.hid (show Tide.askErr l now src ticks = if Tide.countF src 1 l = 20 ∨ Tide.countF (-1) 1 l = 60 ∨ l.length = 200 then 6 else 0 from by unfold Tide.askErr; rw [if_neg (by omega), if_neg (by omega)])
  obtain ⟨i0, hi, hz0, hz1, hz2⟩ := info_parts info_req
  go_enter Tryz.func63, Tryz.ntmps63
  go_wp2_with fail
  refine (bufCount S g _ l src 1 _ HH.out).mono ?_
  rintro e w1 ⟨rfl, hb1⟩
  have HB1 := Lib.hid hb1
  have HH1 := Lib.hid (HH.out.below hb1)
  clear hb1
  generalize Tide.countF src 1 l = c1 at HE ⊢
  by_cases k1 : c1 = 20
  · have HF := Lib.hid (ask_no (now := now) (src := src) (ticks := ticks) HH.out HB1.out (x := 6) (by decide) (by rw [HE.out, if_pos (.inl k1)]))
    subst k1
    go_wp2_with fail
    go_ret2
    exact HF.out
  go_wp2_with fail
  refine (bufCount S g _ l (-1) 1 _ HH1.out).mono ?_
  rintro e w2 ⟨rfl, hb2⟩
  have HB2 := Lib.hid (HB1.out.trans (hb2.mono HB1.out.size))
  have HH2 := Lib.hid (HH1.out.below hb2)
  clear hb2
  generalize Tide.countF (-1) 1 l = c2 at HE ⊢
  by_cases k2 : c2 = 60
  · have HF := Lib.hid (ask_no (now := now) (src := src) (ticks := ticks) HH.out HB2.out (x := 6) (by decide) (by rw [HE.out, if_pos (.inr (.inl k2))]))
    subst k2
    clear k1
    go_wp2_with fail
    go_ret2
    exact HF.out
  have hc : w2.cell? ⟨g, 0, none⟩ = some (.slice A l.length cap0) := HH2.out.head.here rfl
  by_cases k3 : (l.length : Int) = 200
  · have HF := Lib.hid (ask_no (now := now) (src := src) (ticks := ticks) HH.out HB2.out (x := 6) (by decide) (by rw [HE.out, if_pos (.inr (.inr (by omega)))]))
    clear k1
    go_wp2_with fail
    go_ret2
    exact HF.out
  have HE0 := Lib.hid (show Tide.askErr l now src ticks = 0 by rw [HE.out, if_neg (by omega)])
  have hs' : (l.length : Int) < 200 := by omega
  have HL := Lib.hid (show l.length < 200 by omega)
  have hm3 := Lib.hid (show l.length + 1 ≤ maxLen by simp only [maxLen]; omega)
  have hm4 := Lib.hid (show (l.length + 1) * 40 ≤ 140737488355328 by omega)
  have k3b : ((l.length : Int) == 200) = false := by simp only [beq_eq_false_iff_ne]; exact k3
  clear k1 HE k3
  go_wp2_with (at_builtin; refine wpList_append_lies _ (by rfl) (.tmp 57) (.tmp 64) 52 (by rfl) 0 55 i0 (.agg #[.int .i64 0, .int .i64 0, .int .i64 0, .int .i64 0, .int .i64 0]) 5 40 Tryz.underlying52 hi hz0 hz1 hz2 rfl (by decide) (.slice A l.length cap0) _ _ rfl (HH2.out.row.alloc _).owns ⟨w2.heap.size, 0, none⟩ 1 1 (Tide.Req.enc ⟨l.length + 1, src, now + ticks, 1, 0⟩) rfl rfl (buf_cells_in rfl) (by simp [Value.oneCell', Tide.Req.enc]) (by decide) hm3.out hm4.out (Nat.zero_le _) _ rfl ?_)
  intro b cap w3 hown hg ho hlt
  obtain ⟨⟨d9, f9⟩, hA, hC⟩ := HH2.out.app (by decide) HL.out hown hg ho hlt
  have HF := Lib.hid (ask_yes HB2.out hA hC (fun b hb => HH.out.lim b hb) HE0.out)
  clear hown hg ho hlt hA hC hc
  go_wp2_with fail
  go_ret2
  exact HF.out
end Go.Proofs.YtlfaogkdghnmcaaGreat


namespace Go.Proofs.YtlfaogkdghnmcaaGreat
open Go.RowKit
set_option linter.unusedVariables false

theorem buf_info : (Tryz.prog.info? 55).map (fun i => (i.zero, i.size, i.bytes)) = some (some (.agg #[.int .i64 0, .int .i64 0, .int .i64 0, .int .i64 0, .int .i64 0]), 5, 40) := by kernel_rfl
theorem buf_one {l : List Tide.Req} : ∀ u ∈ l.flatMap Tide.Req.enc, u.oneCell' = true := by
  intro u hu
  obtain ⟨r, _, hr⟩ := List.mem_flatMap.1 hu
  simp [Tide.Req.enc] at hr
  rcases hr with h | h | h | h | h <;> subst h <;> rfl
/-- slices.Clone at []api.Request -/
def buf_ClonePost (w : World) (n : Nat) (xs : List Value) (e : Ending) (w' : World) : Prop := ∃ v', e = .returned v' ∧ Tide.OwnRow (fun b => w.heap.size ≤ b) w' 55 5 v' n xs ∧ Below w.heap.size w w'
set_option maxRecDepth 100000 in
set_option maxHeartbeats 4000000 in
theorem buf_clone (S : Nat → Prop) (w : World) (v : Value) (n : Nat) (xs : List Value) (h : Tide.OwnRow S w 55 5 v n xs) (hn : n ≤ 100000000) (h1 : ∀ u ∈ xs, u.oneCell' = true) :
    Calls Tryz.prog 111 #[v] w (buf_ClonePost w n xs) := by
  have heq := @Lib.run_eql_slice_nil Tryz.prog
  rcases h.2 with ⟨rfl, rfl⟩ | ⟨g, cap, rfl, hS, hcap, hmax, hrow⟩
  · have hx : xs = [] := List.length_eq_zero_iff.1 (h.1.trans (Nat.zero_mul _))
    have HF := Lib.hid (show buf_ClonePost w 0 xs (.returned (.slice none 0 0)) w from ⟨_, rfl, by rw [hx]; exact Tide.OwnRow.nil _ _ _ _, Below.refl _ _⟩)
    have hq := fun w => Lib.run_eql_slice_nil (P := Tryz.prog) w 52 55 none 0 0 0 0 Tryz.underlying52
    clear h hx heq
    go_enter Tryz.func111, Tryz.ntmps111
    go_wp2_with fail
    go_ret
    exact HF.out
  · have hq := fun w => Lib.run_eql_slice_nil (P := Tryz.prog) w 52 55 (some ⟨g, 0, none⟩) n cap 0 0 Tryz.underlying52
    have hlen := h.1
    obtain ⟨i0, hi0, hz0, hz1, hz2⟩ := info_parts buf_info
    have HR := Lib.hid hrow; have H1 := Lib.hid h1; have HL := Lib.hid hlen
    have hown : (w.alloc (.cells #[] 55)).ownsRow w.heap.size 55 5 (.slice (some ⟨w.heap.size, 0, none⟩) 0 0) 0 [] := World.ownsRow_made w #[] 0 (Nat.le_refl _) (Nat.zero_le _) rfl
    have HO := Lib.hid hown
    have hm3 := Lib.hid (show 0 + n ≤ maxLen by simp only [maxLen]; omega)
    have hm4 := Lib.hid (show (0 + n) * 40 ≤ 140737488355328 by omega)
    clear h hrow h1 hlen hown hcap hmax hn heq
    go_enter Tryz.func111, Tryz.ntmps111
    go_wp2_with (at_builtin; refine wpList_append_own _ (by rfl) (.tmp 5) (.tmp 6) 52 (by rfl) w.heap.size 55 i0 (.agg #[.int .i64 0, .int .i64 0, .int .i64 0, .int .i64 0, .int .i64 0]) 5 40 Tryz.underlying52 hi0 hz0 hz1 hz2 rfl (by decide) _ _ _ rfl HO.out ⟨g, 0, none⟩ n cap xs rfl HL.out ?c1 H1.out hm3.out hm4.out ?c5 ?_)
    case c1 => exact fun j u hu => by rw [Addr.add_lit, Nat.zero_add]; exact (HR.out.alloc _).cell hu
    case c5 => simp
    intro v' w1 hown1 hg1 _
    have HF := Lib.hid (show buf_ClonePost w n xs (.returned v') w1 from by
      refine ⟨v', rfl, ?_, (((Below.refl _ w).alloc (Nat.le_refl _) _)).grown hg1 (by simp) (fun k hk => by simp [Value.ownBlock] at hk; omega)⟩
      exact Tide.OwnRow.of_owns hown1 (Tide.own_ge hown1))
    clear hown1 hg1
    go_wp2_with fail
    go_ret
    exact HF.out

theorem firstN_some {l : List Tide.Req} {src : Int} {i : Nat} {r : Tide.Req} (h0 : Tide.countF src 2 l ≤ 0) (h : Tide.firstAt (Tide.waitsOf src) l = some i) (hr : l[i]? = some r) : Tide.firstN l src = r.id := by
  unfold Tide.firstN; rw [if_neg (by omega), h]; simp only; rw [hr]; rfl
theorem firstN_none {l : List Tide.Req} {src : Int} (h : Tide.firstAt (Tide.waitsOf src) l = none) : Tide.firstN l src = 0 := by
  unfold Tide.firstN; rw [h]; split <;> rfl
set_option maxRecDepth 100000 in
set_option maxHeartbeats 1600000 in
theorem bufFirst (S : Nat → Prop) (g : Nat) (v : Value) (l : List Tide.Req) (src : Int) (w : World) (h : BAt 151 S w g v l) :
    Calls Tryz.prog 167 #[.pointer (some ⟨g, 0, none⟩), .int .i64 src] w (ReadPost w (.int .i64 (Tide.firstN l src))) := by
  obtain ⟨A, cap, rfl, _, _, _⟩ := h.row.slice
  have hs := h.small
  have HH := Lib.hid h
  clear h
  go_enter Tryz.func167, Tryz.ntmps167
  go_wp2_with fail
  refine (bufCount S g _ l src 2 _ HH.out).mono ?_
  rintro e w1 ⟨rfl, hb1⟩
  have HB1 := Lib.hid hb1
  clear hb1
  by_cases k0 : 0 < Tide.countF src 2 l
  · have HF := Lib.hid (show ReadPost w (.int .i64 (Tide.firstN l src)) (.returned (.int .i64 0)) w1 from ⟨by unfold Tide.firstN; rw [if_pos k0], HB1.out⟩)
    go_wp2_with fail
    go_ret
    exact HF.out
  · have k1 : Tide.countF src 2 l ≤ 0 := by omega
    have K0 := Lib.hid k1
    have hc : w1.cell? ⟨g, 0, none⟩ = some (.slice A l.length cap) := (HH.out.below HB1.out).head.here rfl
    clear k0
    generalize Tide.countF src 2 l = c2 at k1 ⊢
    go_wp2_with fail
    go_loopw [16] (fun i wr => ∃ k : Nat, k ≤ l.length ∧ i = .int .i64 k ∧ Hid (∀ (t : Nat) (b : Tide.Req), t < k → l[t]? = some b → Tide.waitsOf src b = false) ∧ Below w.heap.size w wr) (fun i _ => l.length - (intOf i).toNat)
    case atStart => exact ⟨0, by omega, rfl, Lib.hid (fun t b ht => by omega), HB1.out⟩
    case round =>
      clear hc
      obtain ⟨k, hk, rfl, hno, hb⟩ := hrel
      by_cases hlt : k < l.length
      · obtain ⟨r, hr⟩ := Tide.get_some l hlt
        obtain ⟨b, cap', e, hS, _, _, hbl, c0, c1, c2', c3, c4, _⟩ := (HH.out.below hb).req hr
        cases e
        have i0 : (0 : Int) ≤ (k : Int) := by omega
        have i1 : (k : Int) < (l.length : Int) := by omega
        have HB := Lib.hid (hb.alloc hb.size (.cells #[.int .i64 r.id, .int .i64 r.source, .int .i64 r.till, .int .i64 r.fate, .int .i64 r.pod] 55))
        have HR := Lib.hid hr
        clear hr hb
        have HNo := Lib.hid (show Tide.waitsOf src r = false → ∀ (t : Nat) (b : Tide.Req), t < k + 1 → l[t]? = some b → Tide.waitsOf src b = false from fun hw t b ht hb => by
          rcases Nat.lt_succ_iff_lt_or_eq.mp ht with h | h
          · exact hno.out t b h hb
          · subst h; rw [HR.out] at hb; cases hb; exact hw)
        cases hg : (r.source == src)
        · have HN := Lib.hid (HNo.out (by unfold Tide.waitsOf; rw [hg]; rfl))
          clear hno
          go_wp2_with fail
          go_roundw
          case rel => exact ⟨k + 1, by omega, by go_num, HN, HB.out⟩
          case measure => simp [intOf]; omega
        · cases hf : (r.fate == 1)
          · have HN := Lib.hid (HNo.out (by unfold Tide.waitsOf; rw [hg, hf]; rfl))
            clear hno
            go_wp2_with fail
            go_roundw
            case rel => exact ⟨k + 1, by omega, by go_num, HN, HB.out⟩
            case measure => simp [intOf]; omega
          · have HF := Lib.hid (show ReadPost w (.int .i64 (Tide.firstN l src)) (.returned (.int .i64 r.id)) _ from ⟨by rw [firstN_some K0.out (Tide.firstAt_some hno.out HR.out (by unfold Tide.waitsOf; rw [hg, hf]; rfl)) HR.out], HB.out⟩)
            clear hno
            go_wp2_with fail
            go_ret
            exact HF.out
      · have hke : k = l.length := by omega
        have HF := Lib.hid (show ReadPost w (.int .i64 (Tide.firstN l src)) (.returned (.int .i64 0)) wr from ⟨by rw [firstN_none (Tide.firstAt_none fun t b hb => hno.out t b (by rw [hke]; exact Tide.get_lt hb) hb)], hb⟩)
        clear hb hno hke
        go_wp2_with fail
        go_ret
        exact HF.out

theorem reqAt_none {l : List Tide.Req} {id : Int} (h : Tide.reqAt l id = none) : id < 1 ∨ (l.length : Int) < id := by
  unfold Tide.reqAt at h
  by_cases h1 : 1 ≤ id
  · rw [if_pos h1] at h
    have := List.getElem?_eq_none_iff.1 h
    omega
  · omega
theorem reqAt_some {l : List Tide.Req} {id : Int} {r : Tide.Req} (h : Tide.reqAt l id = some r) : ∃ k : Nat, id = k + 1 ∧ l[k]? = some r := by
  unfold Tide.reqAt at h
  by_cases h1 : 1 ≤ id
  · rw [if_pos h1] at h
    exact ⟨(id - 1).toNat, by omega, h⟩
  · rw [if_neg h1] at h; cases h
set_option maxRecDepth 100000 in
set_option maxHeartbeats 1600000 in
theorem bufFind_none (S : Nat → Prop) (g : Nat) (v : Value) (l : List Tide.Req) (id : Int) (w : World) (h : BAt 151 S w g v l) (hn : Tide.reqAt l id = none) :
    Calls Tryz.prog 150 #[.pointer (some ⟨g, 0, none⟩), .int .i64 id] w fun e w' => e = .returned (.pointer none) ∧ w = w' := by
  obtain ⟨A, cap, rfl, _, _, _⟩ := h.row.slice
  have hc : w.cell? ⟨g, 0, none⟩ = some (.slice A l.length cap) := h.head.here rfl
  have hx := reqAt_none hn
  clear h hn
  by_cases h1 : id < 1
  · clear hx
    go_enter Tryz.func150, Tryz.ntmps150
    go_wp2_with fail
    go_ret
    exact ⟨rfl, rfl⟩
  · have h2 : (l.length : Int) < id := by omega
    have h3 : 1 ≤ id := by omega
    clear hx h1
    go_enter Tryz.func150, Tryz.ntmps150
    go_wp2_with fail
    go_ret
    exact ⟨rfl, rfl⟩
set_option maxRecDepth 100000 in
set_option maxHeartbeats 1600000 in
theorem bufFind (S : Nat → Prop) (g b cap n : Nat) (l : List Tide.Req) (k : Nat) (w : World) (h : BAt 151 S w g (.slice (some ⟨b, 0, none⟩) n cap) l) (hk : k < l.length) :
    Calls Tryz.prog 150 #[.pointer (some ⟨g, 0, none⟩), .int .i64 (k + 1)] w fun e w' => e = .returned (.pointer (some ⟨b, k * 5, none⟩)) ∧ w = w' := by
  obtain ⟨A, cap', e, _, _, _⟩ := h.row.slice
  cases e
  have hc : w.cell? ⟨g, 0, none⟩ = some (.slice (some ⟨b, 0, none⟩) l.length cap) := h.head.here rfl
  have hs := h.small
  have h1 : (1 : Int) ≤ (k : Int) + 1 := by omega
  have h2 : (k : Int) + 1 ≤ (l.length : Int) := by omega
  have i0 : (0 : Int) ≤ (k : Int) := by omega
  have i1 : (k : Int) < (l.length : Int) := by omega
  clear h
  go_enter Tryz.func150, Tryz.ntmps150
  go_wp2_with fail
  go_ret
  exact ⟨by go_num, rfl⟩

set_option maxRecDepth 100000 in
set_option maxHeartbeats 1600000 in
theorem bufCount2 (S : Nat → Prop) (g : Nat) (v : Value) (l : List Tide.Req) (w : World) (h : BAt 151 S w g v l) :
    Calls Tryz.prog 139 #[.pointer (some ⟨g, 0, none⟩)] w (ReadPost w (.tuple #[.int .i64 (Tide.countF (-1) 1 l), .int .i64 (Tide.countF (-1) 2 l)])) := by
  have HH := Lib.hid h
  clear h
  go_enter Tryz.func139, Tryz.ntmps139
  go_wp2_with fail
  refine (bufCount S g _ l (-1) 1 _ HH.out).mono ?_
  rintro e w1 ⟨rfl, hb1⟩
  have HB1 := Lib.hid hb1
  clear hb1
  go_wp2_with fail
  refine (bufCount S g _ l (-1) 2 _ (HH.out.below HB1.out)).mono ?_
  rintro e w2 ⟨rfl, hb2⟩
  have HB2 := Lib.hid (HB1.out.trans (hb2.mono HB1.out.size))
  clear hb2
  go_wp2_with fail
  go_ret2
  exact ⟨rfl, HB2.out⟩

def BufAllPost (w : World) (l : List Tide.Req) (e : Ending) (w' : World) : Prop := ∃ v', e = .returned v' ∧ Tide.OwnRow (fun b => w.heap.size ≤ b) w' 55 5 v' l.length (l.flatMap Tide.Req.enc) ∧ Below w.heap.size w w'
set_option maxRecDepth 100000 in
set_option maxHeartbeats 1600000 in
theorem bufAll (S : Nat → Prop) (g : Nat) (v : Value) (l : List Tide.Req) (w : World) (h : BAt 151 S w g v l) :
    Calls Tryz.prog 66 #[.pointer (some ⟨g, 0, none⟩)] w (BufAllPost w l) := by
  obtain ⟨A, cap, rfl, _, _, _⟩ := h.row.slice
  have hc : w.cell? ⟨g, 0, none⟩ = some (.slice A l.length cap) := h.head.here rfl
  have HH := Lib.hid h
  clear h
  go_enter Tryz.func66, Tryz.ntmps66
  go_wp2_with fail
  refine (buf_clone S _ _ _ _ HH.out.row (by have := HH.out.small; omega) buf_one).mono ?_
  rintro e w2 ⟨v', rfl, h2, hb2⟩
  have HF := Lib.hid (show BufAllPost w l (.returned v') w2 from ⟨v', rfl, h2, hb2⟩)
  clear h2 hb2 hc
  go_wp2_with fail
  go_ret
  exact HF.out

theorem best_succ (l : List Tide.Req) (k : Nat) : (List.range (k + 1)).foldl (Tide.bestStep l) 0 = Tide.bestStep l ((List.range k).foldl (Tide.bestStep l) 0) k := by
  rw [List.range_succ, List.foldl_append]; rfl
set_option maxRecDepth 100000 in
set_option maxHeartbeats 1600000 in
theorem bufNext (S : Nat → Prop) (g : Nat) (v : Value) (l : List Tide.Req) (w : World) (h : BAt 151 S w g v l) :
    Calls Tryz.prog 143 #[.pointer (some ⟨g, 0, none⟩)] w (ReadPost w (.tuple #[.int .i64 (Tide.nextN l), .bool (decide (0 < Tide.nextN l))])) := by
  have HH := Lib.hid h
  clear h
  go_enter Tryz.func143, Tryz.ntmps143
  go_wp2_with fail
  go_loopw [4, 7] (fun m i wr => ∃ k : Nat, k ≤ 6 ∧ i = .int .i64 k ∧ m = .int .i64 ((List.range k).foldl (Tide.bestStep l) 0) ∧ Below w.heap.size w wr) (fun _ i _ => 6 - (intOf i).toNat)
  case atStart => exact ⟨0, by omega, rfl, rfl, Below.refl _ _⟩
  case round =>
    obtain ⟨k, hk, rfl, rfl, hb⟩ := hrel
    have HB := Lib.hid hb
    clear hb
    by_cases hlt : k < 6
    · have i1 : (k : Int) < 6 := by omega
      have HS := Lib.hid (best_succ l k)
      generalize (List.range k).foldl (Tide.bestStep l) 0 = best at HS ⊢
      go_wp2_with fail
      refine (bufFirst S g v l k _ (HH.out.below HB.out)).mono ?_
      rintro e w1 ⟨rfl, hb1⟩
      have HB1 := Lib.hid (HB.out.trans (hb1.mono HB.out.size))
      clear hb1
      have HU := Lib.hid (show Tide.bestStep l best k = if 0 < Tide.firstN l k ∧ (best = 0 ∨ Tide.firstN l k < best) then Tide.firstN l k else best from rfl)
      generalize Tide.firstN l k = f at HU ⊢
      by_cases q1 : 0 < f
      · by_cases q2 : best = 0
        · have HE := Lib.hid (show f = (List.range (k + 1)).foldl (Tide.bestStep l) 0 by rw [HS.out, HU.out, if_pos ⟨q1, .inl q2⟩])
          subst q2
          go_wp2_with fail
          go_roundw
          case rel => exact ⟨k + 1, by omega, by go_num, by rw [← HE.out], HB1.out⟩
          case measure => simp [intOf]; omega
        · by_cases q3 : f < best
          · have HE := Lib.hid (show f = (List.range (k + 1)).foldl (Tide.bestStep l) 0 by rw [HS.out, HU.out, if_pos ⟨q1, .inr q3⟩])
            go_wp2_with fail
            go_roundw
            case rel => exact ⟨k + 1, by omega, by go_num, by rw [← HE.out], HB1.out⟩
            case measure => simp [intOf]; omega
          · have HE := Lib.hid (show best = (List.range (k + 1)).foldl (Tide.bestStep l) 0 by rw [HS.out, HU.out, if_neg (by omega)])
            have q4 : ((best == 0) = true ∨ f < best) = False := by simp only [eq_iff_iff, iff_false, beq_iff_eq]; omega
            have q2b : (best == 0) = false := by simp only [beq_eq_false_iff_ne]; exact q2
            have q3' : best ≤ f := by omega
            clear q3
            go_wp2_with fail
            go_roundw
            case rel => exact ⟨k + 1, by omega, by go_num, by rw [← HE.out], HB1.out⟩
            case measure => simp [intOf]; omega
      · have HE := Lib.hid (show best = (List.range (k + 1)).foldl (Tide.bestStep l) 0 by rw [HS.out, HU.out, if_neg (by omega)])
        have q1' : f ≤ 0 := by omega
        clear q1
        go_wp2_with fail
        go_roundw
        case rel => exact ⟨k + 1, by omega, by go_num, by rw [← HE.out], HB1.out⟩
        case measure => simp [intOf]; omega
    · have hke : k = 6 := by omega
      subst hke
      have HF := Lib.hid (show ReadPost w (.tuple #[.int .i64 (Tide.nextN l), .bool (decide (0 < Tide.nextN l))]) (.returned (.tuple #[.int .i64 ((List.range 6).foldl (Tide.bestStep l) 0), .bool (decide (0 < (List.range 6).foldl (Tide.bestStep l) 0))])) wr from ⟨rfl, HB.out⟩)
      generalize (List.range 6).foldl (Tide.bestStep l) 0 = best at HF ⊢
      go_wp2_with fail
      go_ret2
      exact HF.out
end Go.Proofs.YtlfaogkdghnmcaaGreat


namespace Go.Proofs.YtlfaogkdghnmcaaGreat
open Go.RowKit
set_option linter.unusedVariables false

def RunPost (T : TypeId) (S : Nat → Prop) (w : World) (g : Nat) (l : List Tide.Req) (id pod : Int) (e : Ending) (w' : World) : Prop :=
  e = .returned (.int .i64 (Tide.runErr l id)) ∧ (∃ v, BAt T S w' g v (Tide.runLst l id pod)) ∧ Tide.Chg S w w'
theorem reqAt_at {l : List Tide.Req} {k : Nat} {r : Tide.Req} (h : l[k]? = some r) : Tide.reqAt l ((k : Int) + 1) = some r := by
  unfold Tide.reqAt; rw [if_pos (by omega), show ((k : Int) + 1 - 1).toNat = k by omega]; exact h
set_option maxRecDepth 100000 in
set_option maxHeartbeats 3200000 in
theorem bufRun (S : Nat → Prop) (g : Nat) (v : Value) (l : List Tide.Req) (id pod : Int) (w : World) (h : BAt 151 S w g v l) :
    Calls Tryz.prog 145 #[.pointer (some ⟨g, 0, none⟩), .int .i64 id, .int .i64 pod] w (RunPost 151 S w g l id pod) := by
  have HH := Lib.hid h
  clear h
  cases hq : Tide.reqAt l id with
  | none =>
    have HF := Lib.hid (show RunPost 151 S w g l id pod (.returned (.int .i64 4)) w from ⟨by unfold Tide.runErr; rw [hq], ⟨v, by unfold Tide.runLst; rw [hq]; exact HH.out⟩, Tide.Chg.refl _ _⟩)
    have HQ := Lib.hid hq
    clear hq
    go_enter Tryz.func145, Tryz.ntmps145
    go_wp2_with fail
    refine (bufFind_none S g v l id _ HH.out HQ.out).mono ?_
    rintro e w1 ⟨rfl, rfl⟩
    go_wp2_with fail
    go_ret
    exact HF.out
  | some r =>
    obtain ⟨k, rfl, hr⟩ := reqAt_some hq
    obtain ⟨b, cap, rfl, hS, _, _, hbl, c0, c1, c2, c3, c4, fz⟩ := HH.out.req hr
    have hkl := Tide.get_lt hr
    have HR := Lib.hid hr; have HQ := Lib.hid hq; have HK := Lib.hid hkl
    clear hr hq hkl c0 c2 c3 c4 fz hbl
    go_enter Tryz.func145, Tryz.ntmps145
    go_wp2_with fail
    refine (bufFind S g b cap _ l k _ HH.out HK.out).mono ?_
    rintro e w1 ⟨rfl, rfl⟩
    go_wp2_with fail
    refine (bufFirst S g _ l r.source _ HH.out).mono ?_
    rintro e w1 ⟨rfl, hb1⟩
    have HB1 := Lib.hid hb1
    clear hb1 c1
    by_cases hf : Tide.firstN l r.source = (k : Int) + 1
    · have HF := Lib.hid hf
      obtain ⟨b', cap', e, hS', _, _, hbl, c0, c1, c2, c3, c4, fz⟩ := (HH.out.below HB1.out).req HR.out
      cases e
      have f3 := fz (k * 5 + 3); have f4 := fz (k * 5 + 4)
      clear fz c0 c1 c2
      rw [hf]
      clear hf
      go_wp2_with fail
      go_ret
      obtain ⟨p1, p2⟩ := (HH.out.below HB1.out).put (by decide) (k := k) (j := 3) (r' := { r with fate := 2 }) (u := .int .i64 2) HR.out (by decide) rfl
      obtain ⟨p3, p4⟩ := p1.put (by decide) (k := k) (j := 4) (r' := { r with fate := 2, pod := pod }) (u := .int .i64 pod) (List.getElem?_set_self HK.out) (by decide) rfl
      rw [List.set_set] at p3
      refine ⟨?_, ⟨.slice (some ⟨b, 0, none⟩) l.length cap, ?_⟩, ((Tide.Chg.of_below HB1.out (Nat.le_refl _)).trans p2).trans p4⟩
      · unfold Tide.runErr; rw [HQ.out]; simp only; rw [if_pos HF.out]; rfl
      · unfold Tide.runLst; rw [HQ.out]; simp only; rw [if_pos HF.out, show ((k : Int) + 1 - 1).toNat = k by omega]; exact p3
    · have HF := Lib.hid (show RunPost 151 S w g l ((k : Int) + 1) pod (.returned (.int .i64 7)) w1 from ⟨by unfold Tide.runErr; rw [HQ.out]; simp only; rw [if_neg hf], ⟨_, by unfold Tide.runLst; rw [HQ.out]; simp only; rw [if_neg hf]; exact HH.out.below HB1.out⟩, Tide.Chg.of_below HB1.out (Nat.le_refl _)⟩)
      generalize Tide.firstN l r.source = f at hf ⊢
      have hf2 : ((k : Int) + 1 == f) = false := by simp only [beq_eq_false_iff_ne]; exact fun e => hf e.symm
      have hf3 : (f == (k : Int) + 1) = false := by simp only [beq_eq_false_iff_ne]; exact hf
      go_wp2_with fail
      go_ret
      exact HF.out

def DonePost (T : TypeId) (S : Nat → Prop) (w : World) (g : Nat) (l : List Tide.Req) (id : Int) (e : Ending) (w' : World) : Prop :=
  e = .returned (.tuple #[.int .i64 (Tide.doneNum l id), .int .i64 (Tide.doneErr l id)]) ∧ (∃ v, BAt T S w' g v (Tide.doneLst l id)) ∧ Tide.Chg S w w'
set_option maxRecDepth 100000 in
set_option maxHeartbeats 3200000 in
theorem bufDone (S : Nat → Prop) (g : Nat) (v : Value) (l : List Tide.Req) (id : Int) (w : World) (h : BAt 151 S w g v l) :
    Calls Tryz.prog 108 #[.pointer (some ⟨g, 0, none⟩), .int .i64 id] w (DonePost 151 S w g l id) := by
  have HH := Lib.hid h
  clear h
  cases hq : Tide.reqAt l id with
  | none =>
    have HF := Lib.hid (show DonePost 151 S w g l id (.returned (.tuple #[.int .i64 0, .int .i64 4])) w from ⟨by unfold Tide.doneErr Tide.doneNum; rw [hq], ⟨v, by unfold Tide.doneLst; rw [hq]; exact HH.out⟩, Tide.Chg.refl _ _⟩)
    have HQ := Lib.hid hq
    clear hq
    go_enter Tryz.func108, Tryz.ntmps108
    go_wp2_with fail
    refine (bufFind_none S g v l id _ HH.out HQ.out).mono ?_
    rintro e w1 ⟨rfl, rfl⟩
    go_wp2_with fail
    go_ret2
    exact HF.out
  | some r =>
    obtain ⟨k, rfl, hr⟩ := reqAt_some hq
    obtain ⟨b, cap, rfl, hS, _, _, hbl, c0, c1, c2, c3, c4, fz⟩ := HH.out.req hr
    have hkl := Tide.get_lt hr
    have f3 := fz (k * 5 + 3)
    have HR := Lib.hid hr; have HQ := Lib.hid hq; have HK := Lib.hid hkl
    clear hr hq hkl c0 c1 c2 fz hbl
    go_enter Tryz.func108, Tryz.ntmps108
    go_wp2_with fail
    refine (bufFind S g b cap _ l k _ HH.out HK.out).mono ?_
    rintro e w1 ⟨rfl, rfl⟩
    by_cases hf : r.fate = 2
    · have HF := Lib.hid hf
      rw [hf] at c3
      clear hf
      go_wp2_with fail
      go_ret2
      obtain ⟨p1, p2⟩ := HH.out.put (by decide) (k := k) (j := 3) (r' := { r with fate := 3 }) (u := .int .i64 3) HR.out (by decide) rfl
      refine ⟨?_, ⟨.slice (some ⟨b, 0, none⟩) l.length cap, ?_⟩, p2⟩
      · unfold Tide.doneErr Tide.doneNum; rw [HQ.out]; simp only; rw [if_pos HF.out, if_pos HF.out]; rfl
      · unfold Tide.doneLst; rw [HQ.out]; simp only; rw [if_pos HF.out, show ((k : Int) + 1 - 1).toNat = k by omega]; exact p1
    · have HF := Lib.hid (show DonePost 151 S w g l ((k : Int) + 1) (.returned (.tuple #[.int .i64 0, .int .i64 7])) w from ⟨by unfold Tide.doneErr Tide.doneNum; rw [HQ.out]; simp only; rw [if_neg hf, if_neg hf], ⟨_, by unfold Tide.doneLst; rw [HQ.out]; simp only; rw [if_neg hf]; exact HH.out⟩, Tide.Chg.refl _ _⟩)
      have hf3 : (r.fate == 2) = false := by simp only [beq_eq_false_iff_ne]; exact hf
      go_wp2_with fail
      go_ret2
      exact HF.out
end Go.Proofs.YtlfaogkdghnmcaaGreat


namespace Go.Proofs.YtlfaogkdghnmcaaGreat
open Go.RowKit
set_option linter.unusedVariables false

theorem bufInt_info : (Tryz.prog.info? 3).map (fun i => (i.zero, i.size, i.bytes)) = some (some (.int .i64 0), 1, 8) := by kernel_rfl
def EndPost (T : TypeId) (S : Nat → Prop) (w : World) (g : Nat) (v : Value) (l : List Tide.Req) (p : Tide.Req → Bool) (fate : Int) (e : Ending) (w' : World) : Prop :=
  ∃ v', e = .returned v' ∧ Tide.OwnRow (fun b => w.heap.size ≤ b) w' 3 1 v' (Tide.idsF p l).length ((Tide.idsF p l).map (.int .i64)) ∧ BAt T S w' g v (l.map (Tide.setF p fate)) ∧ Tide.Chg S w w'
structure EndMid (T : TypeId) (S : Nat → Prop) (w wr : World) (g : Nat) (v : Value) (lb : List Tide.Req) (ids : List Int) (o : Value) : Prop where
  buf : BAt T S wr g v lb
  out : Tide.OwnRow (fun b => w.heap.size ≤ b) wr 3 1 o ids.length (ids.map (.int .i64))
  chg : Tide.Chg S w wr
  low : ∀ b, S b → b < w.heap.size
theorem EndMid.alloc {T : TypeId} {S : Nat → Prop} {w wr : World} {g : Nat} {v : Value} {lb : List Tide.Req} {ids : List Int} {o : Value} (h : EndMid T S w wr g v lb ids o) (ob : Obj) : EndMid T S w (wr.alloc ob) g v lb ids o :=
  ⟨h.buf.alloc ob, h.out.alloc ob, h.chg.alloc ob, h.low⟩
theorem EndMid.below {T : TypeId} {S : Nat → Prop} {w wr w1 : World} {g : Nat} {v : Value} {lb : List Tide.Req} {ids : List Int} {o : Value} (h : EndMid T S w wr g v lb ids o) (hb : Below wr.heap.size wr w1) : EndMid T S w w1 g v lb ids o :=
  ⟨h.buf.below hb, h.out.below hb (Nat.le_refl _), h.chg.step_below hb h.chg.size, h.low⟩
def EndRun (T : TypeId) (S : Nat → Prop) (w wr : World) (g : Nat) (v : Value) (l : List Tide.Req) (p : Tide.Req → Bool) (fate : Int) (k : Nat) (o : Value) : Prop :=
  EndMid T S w wr g v (Tide.upTo (Tide.setF p fate) l k) (Tide.idsF p (l.take k)) o
theorem EndRun.start {T : TypeId} {S : Nat → Prop} {w : World} {g : Nat} {v : Value} {l : List Tide.Req} {p : Tide.Req → Bool} {fate : Int} (h : BAt T S w g v l) : EndRun T S w w g v l p fate 0 (.slice none 0 0) :=
  ⟨by rw [Tide.upTo_zero]; exact h, Tide.OwnRow.nil _ _ _ _, Tide.Chg.refl _ _, h.lim⟩
theorem EndRun.done {T : TypeId} {S : Nat → Prop} {w wr : World} {g : Nat} {v : Value} {l : List Tide.Req} {p : Tide.Req → Bool} {fate : Int} {o : Value} (h : EndRun T S w wr g v l p fate l.length o) : EndPost T S w g v l p fate (.returned o) wr := by
  have hb := h.buf; have ho := h.out
  rw [Tide.upTo_all] at hb
  rw [List.take_length] at ho
  exact ⟨o, rfl, ho, hb, h.chg⟩
theorem idsF_no {p : Tide.Req → Bool} {l : List Tide.Req} {k : Nat} {r : Tide.Req} (hr : l[k]? = some r) (hp : p r = false) : Tide.idsF p (l.take (k + 1)) = Tide.idsF p (l.take k) := by
  unfold Tide.idsF; rw [Tide.filter_snoc hr, hp]; simp
theorem idsF_yes {p : Tide.Req → Bool} {l : List Tide.Req} {k : Nat} {r : Tide.Req} (hr : l[k]? = some r) (hp : p r = true) : Tide.idsF p (l.take (k + 1)) = Tide.idsF p (l.take k) ++ [r.id] := by
  unfold Tide.idsF; rw [Tide.filter_snoc hr, hp]; simp
theorem idsF_le (p : Tide.Req → Bool) (l : List Tide.Req) (k : Nat) : (Tide.idsF p (l.take k)).length ≤ l.length := by
  unfold Tide.idsF; rw [List.length_map]
  exact Nat.le_trans (List.length_filter_le _ _) (by rw [List.length_take]; omega)
theorem EndMid.skip {T : TypeId} {S : Nat → Prop} {w wr : World} {g : Nat} {v : Value} {l : List Tide.Req} {p : Tide.Req → Bool} {fate : Int} {k : Nat} {o : Value} {r : Tide.Req} (h : EndMid T S w wr g v (Tide.upTo (Tide.setF p fate) l k) (Tide.idsF p (l.take k)) o) (hr : l[k]? = some r) (hp : p r = false) : EndRun T S w wr g v l p fate (k + 1) o := by
  unfold EndRun
  rw [idsF_no hr hp, Tide.upTo_same hr (by unfold Tide.setF; rw [hp]; rfl)]
  exact h
theorem EndMid.put {T : TypeId} {S : Nat → Prop} {w wr : World} {g b cap n : Nat} {l : List Tide.Req} {p : Tide.Req → Bool} {fate : Int} {k : Nat} {ids : List Int} {o : Value} {r : Tide.Req} (h : EndMid T S w wr g (.slice (some ⟨b, 0, none⟩) n cap) (Tide.upTo (Tide.setF p fate) l k) ids o) (hT : T ≠ 55) (hr : l[k]? = some r) (hp : p r = true) :
    EndMid T S w (wr.setCell ⟨b, k * 5 + 3, none⟩ (.int .i64 fate)) g (.slice (some ⟨b, 0, none⟩) n cap) (Tide.upTo (Tide.setF p fate) l (k + 1)) ids o := by
  obtain ⟨p1, p2⟩ := h.buf.put hT (k := k) (j := 3) (r' := { r with fate := fate }) (u := .int .i64 fate) ((Tide.upTo_get _ _ _).trans hr) (by decide) rfl
  have e : (Tide.upTo (Tide.setF p fate) l k).set k { r with fate := fate } = Tide.upTo (Tide.setF p fate) l (k + 1) := by
    rw [← Tide.upTo_succ hr]; unfold Tide.setF; rw [hp]; rfl
  rw [e] at p1
  obtain ⟨b', cap', e', hS, _⟩ := h.buf.row.form (by rw [Tide.upTo_length]; have := Tide.get_lt hr; omega)
  cases e'
  exact ⟨p1, h.out.other (p := ⟨b, k * 5 + 3, none⟩) (by have := h.low b hS; simp; omega) _, h.chg.trans p2, h.low⟩
theorem EndMid.app {T : TypeId} {S : Nat → Prop} {w wr w3 : World} {g b2 cap2 : Nat} {v : Value} {l : List Tide.Req} {p : Tide.Req → Bool} {fate : Int} {k : Nat} {o : Value} {r : Tide.Req} {ob : Obj} (h : EndMid T S w wr g v (Tide.upTo (Tide.setF p fate) l (k + 1)) (Tide.idsF p (l.take k)) o) (hr : l[k]? = some r) (hp : p r = true)
    (h1 : w3.ownsRow 0 3 1 (.slice (some ⟨b2, 0, none⟩) ((Tide.idsF p (l.take k)).length + 1) cap2) ((Tide.idsF p (l.take k)).length + 1) ((Tide.idsF p (l.take k)).map (.int .i64) ++ [.int .i64 r.id])) (hg : (wr.alloc ob).grownBy w3 o.ownBlock) (ho : o.ownBlock = some b2 ∨ b2 = wr.heap.size + 1) (hlt : b2 < w3.heap.size) :
    EndRun T S w w3 g v l p fate (k + 1) (.slice (some ⟨b2, 0, none⟩) ((Tide.idsF p (l.take k)).length + 1) cap2) := by
  have z : (wr.alloc ob).heap.size = wr.heap.size + 1 := by simp
  have z1 := h.chg.size
  obtain ⟨r1, r2⟩ := (h.out.alloc ob).app h1 hg (ho.imp id (fun e => by rw [e, z])) hlt
  unfold EndRun
  refine ⟨(h.buf.alloc ob).chg r2 (fun b hb hn => by have := h.low b hb; omega), ?_, (h.chg.alloc ob).step r2 (fun b hb => .inr hb), h.low⟩
  rw [idsF_yes hr hp, List.length_append, List.map_append]
  refine r1.mono fun c _ hc => ?_
  rcases hc with hc | hc
  · exact hc
  · omega
/- end with the function (*buffer.Buffer).Late$1 -/
set_option maxRecDepth 100000 in
set_option maxHeartbeats 6400000 in
theorem bufLate_end (B : Nat) (p : Tide.Req → Bool) (fate : Int) (S : Nat → Prop) (g : Nat) (v : Value) (l : List Tide.Req) (w : World) (h : BAt 151 S w g v l)
    (hp : ∀ (r : Tide.Req) (W : World), Tide.Chg S w W → Calls Tryz.prog 137 #[.agg #[.int .i64 r.id, .int .i64 r.source, .int .i64 r.till, .int .i64 r.fate, .int .i64 r.pod], .pointer (some ⟨B, 0, none⟩)] W fun e W' => e = .returned (.bool (p r)) ∧ Below W.heap.size W W') :
    Calls Tryz.prog 136 #[.pointer (some ⟨g, 0, none⟩), .int .i64 fate, .func (.func 137) #[] #[.pointer (some ⟨B, 0, none⟩)]] w (EndPost 151 S w g v l p fate) := by
  obtain ⟨A, cap0, rfl, _, _, _⟩ := h.row.slice
  have hc : w.cell? ⟨g, 0, none⟩ = some (.slice A l.length cap0) := h.head.here rfl
  have hs := h.small
  have HH := Lib.hid h; have HP := Lib.hid hp
  clear h hp
  obtain ⟨i0, hi, hz0, hz1, hz2⟩ := info_parts bufInt_info
  go_enter Tryz.func136, Tryz.ntmps136
  go_wp2_with fail
  go_loopw [7, 15] (fun o i wr => ∃ k : Nat, k ≤ l.length ∧ i = .int .i64 k ∧ EndRun 151 S w wr g (.slice A l.length cap0) l p fate k o) (fun _ i _ => l.length - (intOf i).toNat)
  case atStart => exact ⟨0, by omega, rfl, EndRun.start HH.out⟩
  case round =>
    clear hc
    obtain ⟨k, hk, rfl, hr0⟩ := hrel
    obtain ⟨A7, c7, rfl, _, _, _⟩ := EndMid.out hr0 |>.slice
    have HR0 := Lib.hid hr0
    clear hr0
    by_cases hlt : k < l.length
    · obtain ⟨r, hr⟩ := Tide.get_some l hlt
      obtain ⟨b, cap', e, hS, _, _, hbl, c0, c1, c2, c3, c4, _⟩ := HR0.out.buf.req ((Tide.upTo_get _ _ _).trans hr)
      rw [Tide.upTo_length] at e
      cases e
      have i0' : (0 : Int) ≤ (k : Int) := by omega
      have i1 : (k : Int) < (l.length : Int) := by omega
      have HR1 := Lib.hid (HR0.out.alloc (.cells #[.int .i64 r.id, .int .i64 r.source, .int .i64 r.till, .int .i64 r.fate, .int .i64 r.pod] 55))
      have HX := Lib.hid (Tide.At.made wr 55 #[.int .i64 r.id, .int .i64 r.source, .int .i64 r.till, .int .i64 r.fate, .int .i64 r.pod])
      have HR := Lib.hid hr
      clear hr
      go_wp2_with fail
      refine (HP.out r _ HR1.out.chg).mono ?_
      rintro e w1 ⟨rfl, hb1⟩
      have HR2 := Lib.hid (HR1.out.below hb1)
      have hX := HX.out.below hb1 (by simp)
      have x0 := hX.here (i := 0) rfl
      have HX1 := Lib.hid hX
      clear hX hb1 c0 c1 c2 c3 c4 hbl
      cases hpm : p r
      · have HN := Lib.hid (HR2.out.skip HR.out hpm)
        clear x0
        go_wp2_with fail
        go_roundw
        case rel => exact ⟨k + 1, by omega, by go_num, HN.out⟩
        case measure => simp [intOf]; omega
      · have hc : w1.cell? ⟨g, 0, none⟩ = some (.slice (some ⟨b, 0, none⟩) l.length cap0) := HR2.out.buf.head.here rfl
        obtain ⟨b', cap', e, hS', _, _, hbl, c0, c1, c2, c3, c4, fz⟩ := HR2.out.buf.req ((Tide.upTo_get _ _ _).trans HR.out)
        rw [Tide.upTo_length] at e
        cases e
        have f3 := fz (k * 5 + 3)
        clear c0 c1 c2 c4 fz x0
        have HQ := Lib.hid (HR2.out.put (fate := fate) (by decide) HR.out hpm)
        have HXp := Lib.hid (HX1.out.other (p := ⟨b, k * 5 + 3, none⟩) (by
          have := HR0.out.buf.lim b hS'
          intro e; simp at e; omega) (.int .i64 fate))
        have HS' := Lib.hid hS'
        go_upto_region 7 with fail
        generalize w1.setCell ⟨b, k * 5 + 3, none⟩ (.int .i64 fate) = w2 at HQ HXp ⊢
        have x0' := HXp.out.here (i := 0) rfl
        clear hc c3 f3 hbl
        have hle := idsF_le p l (k + 1)
        have hle0 := idsF_le p l k
        have hm3 := Lib.hid (show (Tide.idsF p (l.take k)).length + 1 ≤ maxLen by simp only [maxLen]; omega)
        have hm4 := Lib.hid (show ((Tide.idsF p (l.take k)).length + 1) * 8 ≤ 140737488355328 by omega)
        clear hle hle0
        go_wp2_with (at_builtin; refine wpList_append_lies _ (by rfl) (.tmp 31) (.tmp 34) 22 (by rfl) 0 3 i0 (.int .i64 0) 1 8 Tryz.underlying22 hi hz0 hz1 hz2 rfl (by decide) (.slice A7 (Tide.idsF p (l.take k)).length c7) _ _ rfl (HQ.out.out.alloc _).owns ⟨w2.heap.size, 0, none⟩ 1 1 [.int .i64 r.id] rfl rfl (buf_cells_in rfl) (by simp [Value.oneCell']) (by decide) hm3.out hm4.out (Nat.zero_le _) _ rfl ?_)
        intro b2 cap2 w3 hown hg ho hlt2
        have HN := Lib.hid (HQ.out.app HR.out hpm hown hg ho hlt2)
        clear hown hg ho hlt2 x0'
        go_wp2_with fail
        go_roundw
        case rel => exact ⟨k + 1, by omega, by go_num, HN.out⟩
        case measure => simp [intOf]; omega
    · have hke : k = l.length := by omega
      subst hke
      have HF := Lib.hid HR0.out.done
      go_wp2_with fail
      go_ret
      exact HF.out
/- end with the function (*buffer.Buffer).Lost$1 -/
set_option maxRecDepth 100000 in
set_option maxHeartbeats 6400000 in
theorem bufLost_end (B : Nat) (p : Tide.Req → Bool) (fate : Int) (S : Nat → Prop) (g : Nat) (v : Value) (l : List Tide.Req) (w : World) (h : BAt 151 S w g v l)
    (hp : ∀ (r : Tide.Req) (W : World), Tide.Chg S w W → Calls Tryz.prog 149 #[.agg #[.int .i64 r.id, .int .i64 r.source, .int .i64 r.till, .int .i64 r.fate, .int .i64 r.pod], .pointer (some ⟨B, 0, none⟩)] W fun e W' => e = .returned (.bool (p r)) ∧ Below W.heap.size W W') :
    Calls Tryz.prog 136 #[.pointer (some ⟨g, 0, none⟩), .int .i64 fate, .func (.func 149) #[] #[.pointer (some ⟨B, 0, none⟩)]] w (EndPost 151 S w g v l p fate) := by
  obtain ⟨A, cap0, rfl, _, _, _⟩ := h.row.slice
  have hc : w.cell? ⟨g, 0, none⟩ = some (.slice A l.length cap0) := h.head.here rfl
  have hs := h.small
  have HH := Lib.hid h; have HP := Lib.hid hp
  clear h hp
  obtain ⟨i0, hi, hz0, hz1, hz2⟩ := info_parts bufInt_info
  go_enter Tryz.func136, Tryz.ntmps136
  go_wp2_with fail
  go_loopw [7, 15] (fun o i wr => ∃ k : Nat, k ≤ l.length ∧ i = .int .i64 k ∧ EndRun 151 S w wr g (.slice A l.length cap0) l p fate k o) (fun _ i _ => l.length - (intOf i).toNat)
  case atStart => exact ⟨0, by omega, rfl, EndRun.start HH.out⟩
  case round =>
    clear hc
    obtain ⟨k, hk, rfl, hr0⟩ := hrel
    obtain ⟨A7, c7, rfl, _, _, _⟩ := EndMid.out hr0 |>.slice
    have HR0 := Lib.hid hr0
    clear hr0
    by_cases hlt : k < l.length
    · obtain ⟨r, hr⟩ := Tide.get_some l hlt
      obtain ⟨b, cap', e, hS, _, _, hbl, c0, c1, c2, c3, c4, _⟩ := HR0.out.buf.req ((Tide.upTo_get _ _ _).trans hr)
      rw [Tide.upTo_length] at e
      cases e
      have i0' : (0 : Int) ≤ (k : Int) := by omega
      have i1 : (k : Int) < (l.length : Int) := by omega
      have HR1 := Lib.hid (HR0.out.alloc (.cells #[.int .i64 r.id, .int .i64 r.source, .int .i64 r.till, .int .i64 r.fate, .int .i64 r.pod] 55))
      have HX := Lib.hid (Tide.At.made wr 55 #[.int .i64 r.id, .int .i64 r.source, .int .i64 r.till, .int .i64 r.fate, .int .i64 r.pod])
      have HR := Lib.hid hr
      clear hr
      go_wp2_with fail
      refine (HP.out r _ HR1.out.chg).mono ?_
      rintro e w1 ⟨rfl, hb1⟩
      have HR2 := Lib.hid (HR1.out.below hb1)
      have hX := HX.out.below hb1 (by simp)
      have x0 := hX.here (i := 0) rfl
      have HX1 := Lib.hid hX
      clear hX hb1 c0 c1 c2 c3 c4 hbl
      cases hpm : p r
      · have HN := Lib.hid (HR2.out.skip HR.out hpm)
        clear x0
        go_wp2_with fail
        go_roundw
        case rel => exact ⟨k + 1, by omega, by go_num, HN.out⟩
        case measure => simp [intOf]; omega
      · have hc : w1.cell? ⟨g, 0, none⟩ = some (.slice (some ⟨b, 0, none⟩) l.length cap0) := HR2.out.buf.head.here rfl
        obtain ⟨b', cap', e, hS', _, _, hbl, c0, c1, c2, c3, c4, fz⟩ := HR2.out.buf.req ((Tide.upTo_get _ _ _).trans HR.out)
        rw [Tide.upTo_length] at e
        cases e
        have f3 := fz (k * 5 + 3)
        clear c0 c1 c2 c4 fz x0
        have HQ := Lib.hid (HR2.out.put (fate := fate) (by decide) HR.out hpm)
        have HXp := Lib.hid (HX1.out.other (p := ⟨b, k * 5 + 3, none⟩) (by
          have := HR0.out.buf.lim b hS'
          intro e; simp at e; omega) (.int .i64 fate))
        have HS' := Lib.hid hS'
        go_upto_region 7 with fail
        generalize w1.setCell ⟨b, k * 5 + 3, none⟩ (.int .i64 fate) = w2 at HQ HXp ⊢
        have x0' := HXp.out.here (i := 0) rfl
        clear hc c3 f3 hbl
        have hle := idsF_le p l (k + 1)
        have hle0 := idsF_le p l k
        have hm3 := Lib.hid (show (Tide.idsF p (l.take k)).length + 1 ≤ maxLen by simp only [maxLen]; omega)
        have hm4 := Lib.hid (show ((Tide.idsF p (l.take k)).length + 1) * 8 ≤ 140737488355328 by omega)
        clear hle hle0
        go_wp2_with (at_builtin; refine wpList_append_lies _ (by rfl) (.tmp 31) (.tmp 34) 22 (by rfl) 0 3 i0 (.int .i64 0) 1 8 Tryz.underlying22 hi hz0 hz1 hz2 rfl (by decide) (.slice A7 (Tide.idsF p (l.take k)).length c7) _ _ rfl (HQ.out.out.alloc _).owns ⟨w2.heap.size, 0, none⟩ 1 1 [.int .i64 r.id] rfl rfl (buf_cells_in rfl) (by simp [Value.oneCell']) (by decide) hm3.out hm4.out (Nat.zero_le _) _ rfl ?_)
        intro b2 cap2 w3 hown hg ho hlt2
        have HN := Lib.hid (HQ.out.app HR.out hpm hown hg ho hlt2)
        clear hown hg ho hlt2 x0'
        go_wp2_with fail
        go_roundw
        case rel => exact ⟨k + 1, by omega, by go_num, HN.out⟩
        case measure => simp [intOf]; omega
    · have hke : k = l.length := by omega
      subst hke
      have HF := Lib.hid HR0.out.done
      go_wp2_with fail
      go_ret
      exact HF.out
end Go.Proofs.YtlfaogkdghnmcaaGreat


namespace Go.Proofs.YtlfaogkdghnmcaaGreat
open Go.RowKit
set_option linter.unusedVariables false

set_option maxRecDepth 100000 in
set_option maxHeartbeats 1600000 in
theorem bufLate1 (B : Nat) (now : Int) (r : Tide.Req) (W : World) (h : Tide.At W B 3 #[.int .i64 now]) :
    Calls Tryz.prog 137 #[.agg #[.int .i64 r.id, .int .i64 r.source, .int .i64 r.till, .int .i64 r.fate, .int .i64 r.pod], .pointer (some ⟨B, 0, none⟩)] W fun e W' => e = .returned (.bool (Tide.isLate now r)) ∧ Below W.heap.size W W' := by
  have hB := Lib.hid ((Below.refl W.heap.size W).alloc (Nat.le_refl _) (.cells #[.int .i64 r.id, .int .i64 r.source, .int .i64 r.till, .int .i64 r.fate, .int .i64 r.pod] 55))
  have hc : (W.alloc (.cells #[.int .i64 r.id, .int .i64 r.source, .int .i64 r.till, .int .i64 r.fate, .int .i64 r.pod] 55)).cell? ⟨B, 0, none⟩ = some (.int .i64 now) := (h.alloc _).here (i := 0) rfl
  have hc0 : W.cell? ⟨B, 0, none⟩ = some (.int .i64 now) := h.here (i := 0) rfl
  clear h
  cases hf : (r.fate == 1)
  · have HT := Lib.hid (show Tide.isLate now r = false by unfold Tide.isLate; rw [hf]; rfl)
    go_enter Tryz.func137, Tryz.ntmps137
    go_wp2_with fail
    go_ret
    exact ⟨by rw [HT.out] <;> rfl, hB.out⟩
  · by_cases ht : r.till ≤ now
    · have HT := Lib.hid (show Tide.isLate now r = true by unfold Tide.isLate; rw [hf]; simp [ht])
      go_enter Tryz.func137, Tryz.ntmps137
      go_wp2_with fail
      go_ret
      exact ⟨by rw [HT.out] <;> rfl, hB.out⟩
    · have HT := Lib.hid (show Tide.isLate now r = decide (r.till ≤ now) by unfold Tide.isLate; rw [hf]; rfl)
      clear ht
      go_enter Tryz.func137, Tryz.ntmps137
      go_wp2_with fail
      go_ret
      exact ⟨by rw [HT.out] <;> rfl, hB.out⟩
set_option maxRecDepth 100000 in
set_option maxHeartbeats 1600000 in
theorem bufLost1 (B : Nat) (pod : Int) (r : Tide.Req) (W : World) (h : Tide.At W B 3 #[.int .i64 pod]) :
    Calls Tryz.prog 149 #[.agg #[.int .i64 r.id, .int .i64 r.source, .int .i64 r.till, .int .i64 r.fate, .int .i64 r.pod], .pointer (some ⟨B, 0, none⟩)] W fun e W' => e = .returned (.bool (Tide.isLost pod r)) ∧ Below W.heap.size W W' := by
  have hB := Lib.hid ((Below.refl W.heap.size W).alloc (Nat.le_refl _) (.cells #[.int .i64 r.id, .int .i64 r.source, .int .i64 r.till, .int .i64 r.fate, .int .i64 r.pod] 55))
  have hc : (W.alloc (.cells #[.int .i64 r.id, .int .i64 r.source, .int .i64 r.till, .int .i64 r.fate, .int .i64 r.pod] 55)).cell? ⟨B, 0, none⟩ = some (.int .i64 pod) := (h.alloc _).here (i := 0) rfl
  have hc0 : W.cell? ⟨B, 0, none⟩ = some (.int .i64 pod) := h.here (i := 0) rfl
  clear h
  cases hf : (r.fate == 2)
  · have HT := Lib.hid (show Tide.isLost pod r = false by unfold Tide.isLost; rw [hf]; rfl)
    go_enter Tryz.func149, Tryz.ntmps149
    go_wp2_with fail
    go_ret
    exact ⟨by rw [HT.out] <;> rfl, hB.out⟩
  · cases ht : (r.pod == pod)
    · have HT := Lib.hid (show Tide.isLost pod r = false by unfold Tide.isLost; rw [hf, ht]; rfl)
      go_enter Tryz.func149, Tryz.ntmps149
      go_wp2_with fail
      go_ret
      exact ⟨by rw [HT.out] <;> rfl, hB.out⟩
    · have HT := Lib.hid (show Tide.isLost pod r = true by unfold Tide.isLost; rw [hf, ht]; rfl)
      go_enter Tryz.func149, Tryz.ntmps149
      go_wp2_with fail
      go_ret
      exact ⟨by rw [HT.out] <;> rfl, hB.out⟩

def LatePost (T : TypeId) (S : Nat → Prop) (w : World) (g : Nat) (v : Value) (l : List Tide.Req) (now : Int) (e : Ending) (w' : World) : Prop :=
  ∃ v', e = .returned (.tuple #[v', .int .i64 (Tide.lateErr now)]) ∧ Tide.OwnRow (fun b => w.heap.size ≤ b) w' 3 1 v' (Tide.lateIds l now).length ((Tide.lateIds l now).map (.int .i64)) ∧ BAt T S w' g v (Tide.lateLst l now) ∧ Tide.Chg S w w'
theorem late_no {T : TypeId} {S : Nat → Prop} {w w' : World} {g : Nat} {v : Value} {l : List Tide.Req} {now : Int} (h : BAt T S w' g v l) (hb : Below w.heap.size w w') (hn : Tide.timeOk now = false) : LatePost T S w g v l now (.returned (.tuple #[.slice none 0 0, .int .i64 1])) w' := by
  refine ⟨.slice none 0 0, by unfold Tide.lateErr; rw [hn]; rfl, ?_, ?_, Tide.Chg.of_below hb (Nat.le_refl _)⟩
  · unfold Tide.lateIds; rw [hn]; exact Tide.OwnRow.nil _ _ _ _
  · unfold Tide.lateLst; rw [hn]; exact h
theorem late_yes {T : TypeId} {S : Nat → Prop} {w w' : World} {ob : Obj} {g : Nat} {v v' : Value} {l : List Tide.Req} {now : Int} (hn : Tide.timeOk now = true) (ho : Tide.OwnRow (fun b => (w.alloc ob).heap.size ≤ b) w' 3 1 v' (Tide.idsF (Tide.isLate now) l).length ((Tide.idsF (Tide.isLate now) l).map (.int .i64))) (hb : BAt T S w' g v (l.map (Tide.setF (Tide.isLate now) 4))) (hc : Tide.Chg S (w.alloc ob) w') : LatePost T S w g v l now (.returned (.tuple #[v', .int .i64 0])) w' := by
  refine ⟨v', by unfold Tide.lateErr; rw [hn]; rfl, ?_, ?_, ((Tide.Chg.refl S w).alloc ob).trans hc⟩
  · unfold Tide.lateIds; rw [hn]; exact ho.mono fun b _ hb => by simp at hb; omega
  · unfold Tide.lateLst; rw [hn]; exact hb
set_option maxRecDepth 100000 in
set_option maxHeartbeats 3200000 in
theorem bufLate (S : Nat → Prop) (g : Nat) (v : Value) (l : List Tide.Req) (now : Int) (w : World) (h : BAt 151 S w g v l) :
    Calls Tryz.prog 94 #[.pointer (some ⟨g, 0, none⟩), .int .i64 now] w (LatePost 151 S w g v l now) := by
  have HH := Lib.hid (h.alloc (.cells #[.int .i64 now] 3))
  have HL := Lib.hid h.lim
  have HB := Lib.hid ((Below.refl w.heap.size w).alloc (Nat.le_refl _) (.cells #[.int .i64 now] 3))
  have HX := Lib.hid (Tide.At.made w 3 #[.int .i64 now])
  clear h
  by_cases h1 : now < 0
  · have HF := Lib.hid (late_no HH.out HB.out (show Tide.timeOk now = false by unfold Tide.timeOk; simp; omega))
    go_enter Tryz.func94, Tryz.ntmps94
    go_wp2_with fail
    go_ret2
    exact HF.out
  have h1' : 0 ≤ now := by omega
  clear h1
  by_cases h2 : 1099511627776 < now
  · have HF := Lib.hid (late_no HH.out HB.out (show Tide.timeOk now = false by unfold Tide.timeOk; simp; omega))
    go_enter Tryz.func94, Tryz.ntmps94
    go_wp2_with fail
    go_ret2
    exact HF.out
  have h2' : now ≤ 1099511627776 := by omega
  clear h2
  have HT := Lib.hid (show Tide.timeOk now = true by unfold Tide.timeOk; simp; omega)
  go_enter Tryz.func94, Tryz.ntmps94
  go_wp2_with fail
  refine (bufLate_end w.heap.size (Tide.isLate now) 4 S g v l _ HH.out (fun r W hW => bufLate1 _ now r W (HX.out.chg hW (fun hs => Nat.lt_irrefl _ (HL.out _ hs))))).mono ?_
  rintro e w1 ⟨v', rfl, ho, hb, hc⟩
  have HF := Lib.hid (late_yes HT.out ho hb hc)
  clear ho hb hc
  go_wp2_with fail
  go_ret2
  exact HF.out
def LostPost (T : TypeId) (S : Nat → Prop) (w : World) (g : Nat) (v : Value) (l : List Tide.Req) (pod : Int) (e : Ending) (w' : World) : Prop :=
  ∃ v', e = .returned v' ∧ Tide.OwnRow (fun b => w.heap.size ≤ b) w' 3 1 v' (Tide.idsF (Tide.isLost pod) l).length ((Tide.idsF (Tide.isLost pod) l).map (.int .i64)) ∧ BAt T S w' g v (Tide.lostLst l pod) ∧ Tide.Chg S w w'
set_option maxRecDepth 100000 in
set_option maxHeartbeats 3200000 in
theorem bufLost (S : Nat → Prop) (g : Nat) (v : Value) (l : List Tide.Req) (pod : Int) (w : World) (h : BAt 151 S w g v l) :
    Calls Tryz.prog 106 #[.pointer (some ⟨g, 0, none⟩), .int .i64 pod] w (LostPost 151 S w g v l pod) := by
  have HH := Lib.hid (h.alloc (.cells #[.int .i64 pod] 3))
  have HL := Lib.hid h.lim
  have HX := Lib.hid (Tide.At.made w 3 #[.int .i64 pod])
  clear h
  go_enter Tryz.func106, Tryz.ntmps106
  go_wp2_with fail
  refine (bufLost_end w.heap.size (Tide.isLost pod) 5 S g v l _ HH.out (fun r W hW => bufLost1 _ pod r W (HX.out.chg hW (fun hs => Nat.lt_irrefl _ (HL.out _ hs))))).mono ?_
  rintro e w1 ⟨v', rfl, ho, hb, hc⟩
  have HF := Lib.hid (show LostPost 151 S w g v l pod (.returned v') w1 from ⟨v', rfl, ho.mono fun b _ hb => by simp at hb; omega, hb, ((Tide.Chg.refl S w).alloc _).trans hc⟩)
  clear ho hb hc
  go_wp2_with fail
  go_ret
  exact HF.out
end Go.Proofs.YtlfaogkdghnmcaaGreat


namespace Go.Proofs.YtlfaogkdghnmcaaGreat
open Go.RowKit
set_option linter.unusedVariables false

def BufNewPost (T : TypeId) (w : World) (e : Ending) (w' : World) : Prop := ∃ g, e = .returned (.pointer (some ⟨g, 0, none⟩)) ∧ BAt T (Tide.Plus (fun _ => False) w w') w' g (.slice none 0 0) [] ∧ Below w.heap.size w w'
set_option maxRecDepth 100000 in
set_option maxHeartbeats 1600000 in
theorem bufNew (w : World) : Calls Tryz.prog 50 #[] w (BufNewPost 151 w) := by
  have HF := Lib.hid (show BufNewPost 151 w (.returned (.pointer (some ⟨w.heap.size, 0, none⟩))) (w.alloc (.cells #[.slice none 0 0] 151)) from
    ⟨_, rfl, ⟨Tide.At.made w _ _, Tide.OwnRow.nil _ _ _ _, .inr ⟨Nat.le_refl _, by simp⟩, by simp, fun b hb => by rcases hb with hb | hb; exact hb.elim; exact hb.2⟩, (Below.refl _ _).alloc (Nat.le_refl _) _⟩)
  go_enter Tryz.func50, Tryz.ntmps50
  go_wp2_with fail
  go_ret
  exact HF.out

theorem ints_slice {S : Nat → Prop} {w : World} {v : Value} {l : List Int} (h : Tide.OwnRow S w 3 1 v l.length (l.map (.int .i64))) :
    ∃ A cap, v = .slice A l.length cap ∧ ∀ (W : World), Below w.heap.size w W → ∀ k x, l[k]? = some x → ∃ b, A = some ⟨b, 0, none⟩ ∧ W.cell? ⟨b, k, none⟩ = some (.int .i64 x) := by
  obtain ⟨A, cap, rfl, h1, h2, h3⟩ := h.slice
  refine ⟨A, cap, rfl, fun W hb k x hk => ?_⟩
  have hkl := Tide.get_lt hk
  obtain ⟨b, rfl, hS, hr⟩ := h3 (by omega)
  refine ⟨b, rfl, ?_⟩
  exact (hb.cell (p := ⟨b, k, none⟩) hr.inside).trans (hr.cell (by rw [List.getElem?_map, hk]; rfl))
theorem idx_has (l : List Int) (x : Int) : decide (0 ≤ Tide.idxOf (Tide.firstAt (fun y => x == y) l)) = decide (x ∈ l) := by
  cases h : Tide.firstAt (fun y => x == y) l with
  | none =>
    have hn : x ∉ l := fun hx => by
      obtain ⟨i, hi⟩ := List.mem_iff_getElem?.1 hx
      have := Tide.firstAt_miss h i x hi
      simp at this
    simp [Tide.idxOf, hn]
  | some i =>
    obtain ⟨a, h1, h2, _⟩ := Tide.firstAt_spec h
    have ha : x = a := by simpa using h2
    have hx : x ∈ l := List.mem_iff_getElem?.2 ⟨i, by rw [ha]; exact h1⟩
    rw [decide_eq_true hx]
    exact decide_eq_true (show (0 : Int) ≤ (i : Int) by omega)
end Go.Proofs.YtlfaogkdghnmcaaGreat


namespace Tide
/-- what holds of a buffer's requests behind each turn -/
structure Good (l : List Req) : Prop where
  num : Numbered l
  few : ∀ s : Int, 0 ≤ s → countF s 1 l ≤ 20
  all : countF (-1) 1 l ≤ 60
theorem Good.nil : Good [] := ⟨fun k r h => by simp at h, fun s _ => by simp [countF], by simp [countF]⟩
/-- numbers and sources are kept; none waits that hasn't -/
def Tame (l l' : List Req) : Prop := l'.length = l.length ∧ ∀ (k : Nat) (r' : Req), l'[k]? = some r' → ∃ r, l[k]? = some r ∧ r'.id = r.id ∧ r'.source = r.source ∧ r'.till = r.till ∧ (r'.fate = 1 → r.fate = 1)
theorem Tame.tail {a a' : Req} {l l' : List Req} (h : Tame (a :: l) (a' :: l')) : Tame l l' := ⟨by simpa using h.1, fun k r' hk => by
  obtain ⟨r, h1, h2⟩ := h.2 (k + 1) r' (by simpa using hk)
  exact ⟨r, by simpa using h1, h2⟩⟩
theorem Tame.count (s : Int) : ∀ {l l' : List Req}, Tame l l' → l'.countP (hasF s 1) ≤ l.countP (hasF s 1)
  | [], [], _ => Nat.le_refl _
  | [], a' :: l', h => by have := h.1; simp at this
  | a :: l, [], h => by have := h.1; simp at this
  | a :: l, a' :: l', h => by
    have ih := Tame.count s h.tail
    obtain ⟨r, h1, _, h2, _, h3⟩ := h.2 0 a' rfl
    simp at h1; subst h1
    rw [List.countP_cons, List.countP_cons]
    have : hasF s 1 a' = true → hasF s 1 a = true := by
      unfold hasF
      rw [h2, Bool.and_eq_true, Bool.and_eq_true]
      rintro ⟨e1, e2⟩
      exact ⟨by have := h3 (by simpa using e1); simpa using this, e2⟩
    cases ha : hasF s 1 a'
    · simp; omega
    · rw [this ha]; simp; omega
theorem Good.tame {l l' : List Req} (h : Good l) (t : Tame l l') : Good l' := by
  refine ⟨fun k r' hk => ?_, fun s hs => ?_, ?_⟩
  · obtain ⟨r, h1, h2, h3, _, _⟩ := t.2 k r' hk
    rw [h2, h3]; exact h.num k r h1
  · have := h.few s hs; have := t.count s; unfold countF at *; omega
  · have := h.all; have := t.count (-1); unfold countF at *; omega
theorem tame_refl (l : List Req) : Tame l l := ⟨rfl, fun k r h => ⟨r, h, rfl, rfl, rfl, id⟩⟩
theorem tame_map (p : Req → Bool) (f : Int) (hf : f ≠ 1) (l : List Req) : Tame l (l.map (setF p f)) := ⟨by simp, fun k r' hk => by
  rw [List.getElem?_map] at hk
  obtain ⟨r, h1, rfl⟩ := Option.map_eq_some_iff.1 hk
  refine ⟨r, h1, ?_⟩
  unfold setF
  split
  · exact ⟨rfl, rfl, rfl, fun e => absurd e hf⟩
  · exact ⟨rfl, rfl, rfl, id⟩⟩
theorem tame_set {l : List Req} {k : Nat} {r q : Req} (hr : l[k]? = some r) (h1 : q.id = r.id) (h2 : q.source = r.source) (h3 : q.till = r.till) (h4 : q.fate ≠ 1) : Tame l (l.set k q) := ⟨by simp, fun j r' hj => by
  by_cases e : k = j
  · subst e
    rw [List.getElem?_set_self (get_lt hr)] at hj
    cases hj
    exact ⟨r, hr, h1, h2, h3, fun e => absurd e h4⟩
  · rw [List.getElem?_set_ne e] at hj
    exact ⟨r', hj, rfl, rfl, rfl, id⟩⟩
theorem tame_late (l : List Req) (x : Int) : Tame l (lateLst l x) := by
  unfold lateLst; split
  · exact tame_map _ _ (by decide) l
  · exact tame_refl l
theorem tame_lost (l : List Req) (x : Int) : Tame l (lostLst l x) := tame_map _ _ (by decide) l
theorem reqAt_get {l : List Req} {id : Int} {r : Req} (h : reqAt l id = some r) : l[(id - 1).toNat]? = some r := by
  unfold reqAt at h; split at h
  · exact h
  · cases h
theorem tame_run (l : List Req) (id pod : Int) : Tame l (runLst l id pod) := by
  unfold runLst
  cases h : reqAt l id with
  | none => exact tame_refl l
  | some r =>
    simp only
    split
    · exact tame_set (reqAt_get h) rfl rfl rfl (show (2 : Int) ≠ 1 by decide)
    · exact tame_refl l
theorem tame_done (l : List Req) (id : Int) : Tame l (doneLst l id) := by
  unfold doneLst
  cases h : reqAt l id with
  | none => exact tame_refl l
  | some r =>
    simp only
    split
    · exact tame_set (reqAt_get h) rfl rfl rfl (show (3 : Int) ≠ 1 by decide)
    · exact tame_refl l
theorem Good.ask {l : List Req} (h : Good l) (now src ticks : Int) : Good (askLst l now src ticks) := by
  unfold askLst
  split
  · rename_i he
    unfold askErr at he
    split at he
    · cases he
    · split at he
      · cases he
      · split at he
        · cases he
        · rename_i h1 h2 h3
          have hs := h.few src (by omega)
          refine ⟨fun k r hk => ?_, fun s hs => ?_, ?_⟩
          · rcases Nat.lt_trichotomy k l.length with c | c | c
            · rw [List.getElem?_append_left c] at hk; exact h.num k r hk
            · subst c
              rw [List.getElem?_append_right (Nat.le_refl _), Nat.sub_self] at hk
              simp at hk; subst hk
              exact ⟨rfl, by simp only; omega, by simp only; omega⟩
            · rw [List.getElem?_eq_none (by simp; omega)] at hk; cases hk
          · have e := h.few s hs
            unfold countF at *
            rw [List.countP_append, List.countP_singleton]
            by_cases c : src = s
            · subst c; simp [hasF]; omega
            · have : hasF s 1 ⟨l.length + 1, src, now + ticks, 1, 0⟩ = false := by unfold hasF; simp [c]; omega
              rw [this]; simpa using e
          · have e := h.all
            unfold countF at *
            rw [List.countP_append, List.countP_singleton]
            have : hasF (-1) 1 ⟨l.length + 1, src, now + ticks, 1, 0⟩ = true := by unfold hasF; simp
            rw [this]; simp; omega
  · exact h
theorem firstN_pos {l : List Req} {s : Int} (hn : Numbered l) (h : 0 < firstN l s) : ∃ (j : Nat) (r : Req), l[j]? = some r ∧ firstN l s = (j : Int) + 1 ∧ freeF l r = true ∧ r.source = s := by
  have hp := countF_nn s 2 l
  unfold firstN at h ⊢
  by_cases hc : 0 < countF s 2 l
  · rw [if_pos hc] at h; omega
  · rw [if_neg hc] at h ⊢
    cases hf : firstAt (waitsOf s) l with
    | none => rw [hf] at h; simp at h
    | some i =>
      obtain ⟨a, h1, h2, h3⟩ := firstAt_spec hf
      refine ⟨i, a, h1, ?_, ?_⟩
      · simp only; rw [h1]; exact (hn i a h1).1
      · unfold waitsOf at h2
        rw [Bool.and_eq_true] at h2
        have e : a.source = s := by simpa using h2.1
        refine ⟨?_, e⟩
        unfold freeF
        rw [h2.2, e]
        simp; omega
theorem best_succ' (l : List Req) (k : Nat) : (List.range (k + 1)).foldl (bestStep l) 0 = bestStep l ((List.range k).foldl (bestStep l) 0) k := by
  rw [List.range_succ, List.foldl_append]; rfl
theorem best_inv (l : List Req) : ∀ k : Nat, ((List.range k).foldl (bestStep l) 0 = 0 ∧ ∀ s : Nat, s < k → ¬ 0 < firstN l s) ∨ (0 < (List.range k).foldl (bestStep l) 0 ∧ (∃ s : Nat, s < k ∧ firstN l s = (List.range k).foldl (bestStep l) 0) ∧ ∀ s : Nat, s < k → 0 < firstN l s → (List.range k).foldl (bestStep l) 0 ≤ firstN l s)
  | 0 => .inl ⟨rfl, fun s h => by omega⟩
  | k + 1 => by
    have ih := best_inv l k
    rw [best_succ']
    generalize (List.range k).foldl (bestStep l) 0 = b at ih ⊢
    unfold bestStep
    by_cases c : 0 < firstN l k ∧ (b = 0 ∨ firstN l k < b)
    · rw [if_pos c]
      refine .inr ⟨c.1, ⟨k, by omega, rfl⟩, fun s hs hp => ?_⟩
      rcases Nat.lt_succ_iff_lt_or_eq.1 hs with h | h
      · rcases ih with ⟨h1, h2⟩ | ⟨h1, h2, h3⟩
        · exact absurd hp (h2 s h)
        · have := h3 s h hp; omega
      · subst h; exact Int.le_refl _
    · rw [if_neg c]
      rcases ih with ⟨h1, h2⟩ | ⟨h1, ⟨s0, h2, h4⟩, h3⟩
      · refine .inl ⟨h1, fun s hs => ?_⟩
        rcases Nat.lt_succ_iff_lt_or_eq.1 hs with h | h
        · exact h2 s h
        · subst h; omega
      · refine .inr ⟨h1, ⟨s0, by omega, h4⟩, fun s hs hp => ?_⟩
        rcases Nat.lt_succ_iff_lt_or_eq.1 hs with h | h
        · exact h3 s h hp
        · subst h; omega
/-- both find the same next one -/
theorem next_same {l : List Req} (hn : Numbered l) : nextN l = nextH l := by
  have hb := best_inv l 6
  unfold nextN nextH
  generalize (List.range 6).foldl (bestStep l) 0 = b at hb ⊢
  cases hf : firstAt (freeF l) l with
  | none =>
    simp only
    rcases hb with ⟨h1, _⟩ | ⟨h1, ⟨s, _, h2⟩, _⟩
    · exact h1
    · obtain ⟨j, r, e1, _, e3, _⟩ := firstN_pos hn (s := s) (by omega)
      rw [firstAt_miss hf j r e1] at e3; cases e3
  | some i =>
    obtain ⟨r, e1, e2, e3⟩ := firstAt_spec hf
    simp only
    have hr := hn i r e1
    have h0 : firstN l r.source = (i : Int) + 1 := by
      rw [firstN_is hn e1, e2, Bool.true_and]
      have : (l.take i).any (waitsOf r.source) = false := by
        rw [List.any_eq_false]
        intro x hx hw
        obtain ⟨j, hj⟩ := List.mem_iff_getElem?.1 hx
        rw [List.getElem?_take] at hj
        split at hj
        · rename_i hji
          have := e3 j x hji hj
          unfold freeF at this e2
          unfold waitsOf at hw
          rw [Bool.and_eq_true] at hw e2
          have hs : x.source = r.source := by simpa using hw.1
          rw [hw.2, hs, e2.2] at this; cases this
        · cases hj
      rw [this]; rfl
    obtain ⟨s, hs⟩ := Int.eq_ofNat_of_zero_le hr.2.1
    have hs6 : s < 6 := by omega
    rw [hs] at h0
    rcases hb with ⟨_, h2⟩ | ⟨h1, ⟨s', _, h2⟩, h3⟩
    · exact absurd (show 0 < firstN l s by omega) (h2 s hs6)
    · have h4 := h3 s hs6 (by omega)
      obtain ⟨j, q, f1, f2, f3, _⟩ := firstN_pos hn (s := s') (by omega)
      rcases Nat.lt_or_ge j i with c | c
      · rw [e3 j q c f1] at f3; cases f3
      · omega
end Tide


namespace Tide
/-- how a request may have gone on -/
def Step (a r : Req) : Prop := r.source = a.source ∧ r.till = a.till ∧ (a.fate = r.fate ∨ a.fate = 1 ∧ r.fate = 2 ∨ a.fate = 1 ∧ r.fate = 4 ∨ a.fate = 2 ∧ r.fate = 3 ∨ a.fate = 2 ∧ r.fate = 5)
def Steps (l l' : List Req) : Prop := l.length ≤ l'.length ∧ ∀ (k : Nat) (a : Req), l[k]? = some a → ∃ r, l'[k]? = some r ∧ Step a r
structure Fair (l : List Req) : Prop where
  num : Numbered l
  one : ∀ s : Int, countF s 2 l ≤ 1 ∨ s < 0
  first : ∀ (i : Nat) (r : Req), l[i]? = some r → r.fate = 2 → ∀ (j : Nat) (x : Req), j < i → l[j]? = some x → waitsOf r.source x = false
theorem Fair.nil : Fair [] := ⟨fun k r h => by simp at h, fun s => .inl (by simp [countF]), fun i r h => by simp at h⟩
theorem Step.refl (a : Req) : Step a a := ⟨rfl, rfl, .inl rfl⟩
theorem Steps.refl (l : List Req) : Steps l l := ⟨Nat.le_refl _, fun k a h => ⟨a, h, Step.refl a⟩⟩
theorem count_le {p q : Req → Bool} : ∀ {l l' : List Req}, l'.length = l.length → (∀ (k : Nat) (r' : Req), l'[k]? = some r' → ∃ r, l[k]? = some r ∧ (p r' = true → q r = true)) → l'.countP p ≤ l.countP q
  | [], [], _, _ => Nat.le_refl _
  | [], a' :: l', h, _ => by simp at h
  | a :: l, [], h, _ => by simp at h
  | a :: l, a' :: l', h, hk => by
    have ih := count_le (l := l) (l' := l') (p := p) (q := q) (by simpa using h) (fun k r' hr => by
      obtain ⟨r, h1, h2⟩ := hk (k + 1) r' (by simpa using hr)
      exact ⟨r, by simpa using h1, h2⟩)
    obtain ⟨r, h1, h2⟩ := hk 0 a' rfl
    simp at h1; subst h1
    rw [List.countP_cons, List.countP_cons]
    cases ha : p a'
    · simp; omega
    · rw [h2 ha]; simp; omega
/-- who waits has waited, who runs has run -/
theorem Fair.calm {l l' : List Req} (h : Fair l) (hl : l'.length = l.length) (hk : ∀ (k : Nat) (r' : Req), l'[k]? = some r' → ∃ r, l[k]? = some r ∧ r'.id = r.id ∧ r'.source = r.source ∧ (r'.fate = 1 → r.fate = 1) ∧ (r'.fate = 2 → r.fate = 2)) : Fair l' := by
  refine ⟨fun k r' hr => ?_, fun s => ?_, fun i r' hi hf j x' hj hx => ?_⟩
  · obtain ⟨r, h1, h2, h3, _⟩ := hk k r' hr
    rw [h2, h3]; exact h.num k r h1
  · rcases h.one s with h1 | h1
    · refine .inl ?_
      have := count_le (p := hasF s 2) (q := hasF s 2) hl (fun k r' hr => by
        obtain ⟨r, e1, _, e3, _, e5⟩ := hk k r' hr
        refine ⟨r, e1, ?_⟩
        unfold hasF
        rw [e3, Bool.and_eq_true, Bool.and_eq_true]
        rintro ⟨f1, f2⟩
        exact ⟨by have := e5 (by simpa using f1); simpa using this, f2⟩)
      unfold countF at *; omega
    · exact .inr h1
  · obtain ⟨r, h1, _, h3, _, h5⟩ := hk i r' hi
    obtain ⟨x, f1, _, f3, f4, _⟩ := hk j x' hx
    have := h.first i r h1 (h5 hf) j x hj f1
    rw [h3]
    unfold waitsOf at this ⊢
    rw [f3]
    cases hs : (x.source == r.source)
    · rfl
    · rw [hs, Bool.true_and] at this
      rw [Bool.true_and]
      simp only [beq_eq_false_iff_ne] at this ⊢
      exact fun e => this (f4 e)
theorem Fair.map {l : List Req} (h : Fair l) (p : Req → Bool) (f : Int) (h1 : f ≠ 1) (h2 : f ≠ 2) : Fair (l.map (setF p f)) := by
  refine h.calm (by simp) fun k r' hk => ?_
  rw [List.getElem?_map] at hk
  obtain ⟨r, e1, rfl⟩ := Option.map_eq_some_iff.1 hk
  refine ⟨r, e1, ?_⟩
  unfold setF
  split
  · exact ⟨rfl, rfl, fun e => absurd e h1, fun e => absurd e h2⟩
  · exact ⟨rfl, rfl, id, id⟩
theorem steps_map {l : List Req} (p : Req → Bool) (f : Int) (hp : ∀ r, p r = true → Step r { r with fate := f }) : Steps l (l.map (setF p f)) := by
  refine ⟨by simp, fun k a ha => ⟨setF p f a, by rw [List.getElem?_map, ha]; rfl, ?_⟩⟩
  unfold setF
  split
  · rename_i e; exact hp a e
  · exact Step.refl a
theorem fair_late {l : List Req} (h : Fair l) (x : Int) : Fair (lateLst l x) ∧ Steps l (lateLst l x) := by
  unfold lateLst; split
  · refine ⟨h.map _ _ (by decide) (by decide), steps_map _ _ fun r hr => ⟨rfl, rfl, ?_⟩⟩
    unfold isLate at hr
    rw [Bool.and_eq_true] at hr
    exact .inr (.inr (.inl ⟨by simpa using hr.1, rfl⟩))
  · exact ⟨h, Steps.refl l⟩
theorem fair_lost {l : List Req} (h : Fair l) (x : Int) : Fair (lostLst l x) ∧ Steps l (lostLst l x) := by
  refine ⟨h.map _ _ (by decide) (by decide), steps_map _ _ fun r hr => ⟨rfl, rfl, ?_⟩⟩
  unfold isLost at hr
  rw [Bool.and_eq_true] at hr
  exact .inr (.inr (.inr (.inr ⟨by simpa using hr.1, rfl⟩)))
theorem set_get {l : List Req} {k : Nat} {r q : Req} (hr : l[k]? = some r) {j : Nat} {x : Req} (hx : (l.set k q)[j]? = some x) : (j = k ∧ x = q) ∨ (j ≠ k ∧ l[j]? = some x) := by
  by_cases e : k = j
  · subst e
    rw [List.getElem?_set_self (get_lt hr)] at hx
    exact .inl ⟨rfl, (Option.some.inj hx).symm⟩
  · rw [List.getElem?_set_ne e] at hx
    exact .inr ⟨fun c => e c.symm, hx⟩
theorem steps_set {l : List Req} {k : Nat} {r q : Req} (hr : l[k]? = some r) (h : Step r q) : Steps l (l.set k q) := by
  refine ⟨by simp, fun j a ha => ?_⟩
  by_cases e : k = j
  · subst e
    rw [hr] at ha; cases ha
    exact ⟨q, List.getElem?_set_self (get_lt hr), h⟩
  · exact ⟨a, by rw [List.getElem?_set_ne e]; exact ha, Step.refl a⟩
theorem fair_done {l : List Req} (h : Fair l) (id : Int) : Fair (doneLst l id) ∧ Steps l (doneLst l id) := by
  unfold doneLst
  cases hq : reqAt l id with
  | none => exact ⟨h, Steps.refl l⟩
  | some r =>
    simp only
    split
    · rename_i hf
      have hr := reqAt_get hq
      refine ⟨h.calm (by simp) fun k r' hk => ?_, steps_set hr ⟨rfl, rfl, .inr (.inr (.inr (.inl ⟨hf, rfl⟩)))⟩⟩
      rcases set_get hr hk with ⟨rfl, rfl⟩ | ⟨_, h1⟩
      · exact ⟨r, hr, rfl, rfl, fun e => absurd e (show (3 : Int) ≠ 1 by decide), fun e => absurd e (show (3 : Int) ≠ 2 by decide)⟩
      · exact ⟨r', h1, rfl, rfl, fun e => e, fun e => e⟩
    · exact ⟨h, Steps.refl l⟩
theorem fair_run {l : List Req} (h : Fair l) (id pod : Int) : Fair (runLst l id pod) ∧ Steps l (runLst l id pod) := by
  unfold runLst
  cases hq : reqAt l id with
  | none => exact ⟨h, Steps.refl l⟩
  | some r =>
    simp only
    split
    · rename_i hf
      have hr := reqAt_get hq
      have hid : id = ((id - 1).toNat : Int) + 1 := by
        unfold reqAt at hq; split at hq
        · omega
        · cases hq
      rw [hid] at hf
      generalize (id - 1).toNat = k at hr hf
      rw [firstN_is h.num hr, Bool.and_eq_true] at hf
      obtain ⟨f1, f2⟩ := hf
      unfold freeF at f1
      rw [Bool.and_eq_true] at f1
      have hf1 : r.fate = 1 := by simpa using f1.1
      have hc0 : countF r.source 2 l = 0 := by simpa using f1.2
      have hno : ∀ (j : Nat) (x : Req), j < k → l[j]? = some x → waitsOf r.source x = false := fun j x hj hx => by
        have e3 : (l.take k).any (waitsOf r.source) = false := by simpa using f2
        rw [List.any_eq_false] at e3
        have := e3 x (List.mem_of_getElem? (i := j) (by rw [List.getElem?_take, if_pos hj]; exact hx))
        simpa using this
      refine ⟨⟨fun j x hx => ?_, fun s => ?_, fun i x hi hxf j y hj hy => ?_⟩, steps_set hr ⟨rfl, rfl, .inr (.inl ⟨hf1, rfl⟩)⟩⟩
      · rcases set_get hr hx with ⟨rfl, rfl⟩ | ⟨_, h1⟩
        · exact h.num j r hr
        · exact h.num j x h1
      · rcases h.one s with h1 | h1
        · by_cases hs : 0 ≤ s
          · refine .inl ?_
            by_cases e : r.source = s
            · subst e
              have := List.countP_set (p := hasF r.source 2) (a := { r with fate := 2, pod := pod }) (get_lt hr)
              unfold countF at *
              rw [this]
              split <;> split <;> omega
            · have : (l.set k { r with fate := 2, pod := pod }).countP (hasF s 2) ≤ l.countP (hasF s 2) := count_le (by simp) fun j x hx => by
                rcases set_get hr hx with ⟨rfl, rfl⟩ | ⟨_, h1⟩
                · refine ⟨r, hr, fun c => ?_⟩
                  unfold hasF at c
                  rw [Bool.and_eq_true, Bool.or_eq_true] at c
                  rcases c.2 with c2 | c2
                  · simp at c2; omega
                  · simp at c2; exact absurd c2 e
                · exact ⟨x, h1, fun e => e⟩
              unfold countF at *; omega
          · exact .inr (by omega)
        · exact .inr h1
      · have hy' : l[j]? = some y ∨ y.fate = 2 := by
          rcases set_get hr hy with ⟨_, rfl⟩ | ⟨_, h1⟩
          · exact .inr rfl
          · exact .inl h1
        have hw2 : y.fate = 2 → ∀ s, waitsOf s y = false := fun e s => by unfold waitsOf; rw [e]; simp
        rcases hy' with hy' | hy'
        · rcases set_get hr hi with ⟨rfl, rfl⟩ | ⟨_, h1⟩
          · exact hno j y hj hy'
          · exact h.first i x h1 hxf j y hj hy'
        · exact hw2 hy' _
    · exact ⟨h, Steps.refl l⟩
theorem fair_ask {l : List Req} (h : Fair l) (now src ticks : Int) : Fair (askLst l now src ticks) ∧ Steps l (askLst l now src ticks) := by
  unfold askLst
  split
  · rename_i he
    unfold askErr at he
    split at he
    · cases he
    · split at he
      · cases he
      · rename_i h1 h2
        have hg : ∀ (k : Nat) (x : Req), (l ++ [⟨l.length + 1, src, now + ticks, 1, 0⟩])[k]? = some x → (k < l.length ∧ l[k]? = some x) ∨ (k = l.length ∧ x = ⟨l.length + 1, src, now + ticks, 1, 0⟩) := fun k x hk => by
          rcases Nat.lt_trichotomy k l.length with c | c | c
          · rw [List.getElem?_append_left c] at hk; exact .inl ⟨c, hk⟩
          · subst c
            rw [List.getElem?_append_right (Nat.le_refl _), Nat.sub_self] at hk
            simp at hk; exact .inr ⟨rfl, hk.symm⟩
          · rw [List.getElem?_eq_none (by simp; omega)] at hk; cases hk
        refine ⟨⟨fun k r hk => ?_, fun s => ?_, fun i r hi hf j x hj hx => ?_⟩, by simp, fun k a ha => ⟨a, ?_, Step.refl a⟩⟩
        · rcases hg k r hk with ⟨_, e⟩ | ⟨rfl, rfl⟩
          · exact h.num k r e
          · exact ⟨rfl, by simp only; omega, by simp only; omega⟩
        · rcases h.one s with e | e
          · refine .inl ?_
            unfold countF at *
            rw [List.countP_append, List.countP_singleton]
            have : hasF s 2 ⟨l.length + 1, src, now + ticks, 1, 0⟩ = false := by unfold hasF; simp
            rw [this]; simpa using e
          · exact .inr e
        · rcases hg i r hi with ⟨c, e⟩ | ⟨_, rfl⟩
          · rcases hg j x hx with ⟨_, e2⟩ | ⟨c2, _⟩
            · exact h.first i r e hf j x hj e2
            · omega
          · exact absurd hf (show (1 : Int) ≠ 2 by decide)
        · rw [List.getElem?_append_left (get_lt ha)]; exact ha
  · exact ⟨h, Steps.refl l⟩
/-- how many of a source run, of the first k -/
def runsOf (l : List Req) (k : Nat) (s : Int) : Int := (((l.take k).countP (fun r => (r.fate == 2) && (r.source == s)) : Nat) : Int)
theorem runsOf_zero (l : List Req) : runsOf l 0 = fun _ => 0 := by funext s; simp [runsOf]
theorem runsOf_no {l : List Req} {k : Nat} {r : Req} (hr : l[k]? = some r) (hf : (r.fate == 2) = false) : runsOf l k = runsOf l (k + 1) := by
  funext s; unfold runsOf; rw [count_snoc hr, hf]; simp
theorem runsOf_yes {l : List Req} {k : Nat} {r : Req} (hr : l[k]? = some r) (hf : (r.fate == 2) = true) : (fun j => if j = r.source then runsOf l k r.source + 1 else runsOf l k j) = runsOf l (k + 1) := by
  funext s
  unfold runsOf
  rw [count_snoc hr, hf]
  by_cases e : s = r.source
  · subst e; simp
  · rw [if_neg e]
    have : (r.source == s) = false := by simp only [beq_eq_false_iff_ne]; exact fun c => e c.symm
    rw [this]; simp
theorem runsOf_le {l : List Req} (h : Fair l) (k : Nat) {s : Int} (hs : 0 ≤ s) : 0 ≤ runsOf l k s ∧ runsOf l k s ≤ 1 := by
  have h1 : countF s 2 l ≤ 1 := by rcases h.one s with e | e; exact e; omega
  refine ⟨by unfold runsOf; omega, ?_⟩
  have h2 : (l.take k).countP (fun r => (r.fate == 2) && (r.source == s)) ≤ l.countP (fun r => (r.fate == 2) && (r.source == s)) := (List.take_sublist k l).countP_le
  have h3 : l.countP (fun r => (r.fate == 2) && (r.source == s)) = l.countP (hasF s 2) := by
    congr 1; funext r; unfold hasF
    rw [decide_eq_false (by omega)]; simp
  unfold runsOf countF at *
  omega
end Tide
