/- Parts of this claim: PlnM, PlnC, OpenRows, BufD, BufE, BufF. -/
import Derived.Laws.StructEq
import Derived.Deep.Slices
import Derived.Deep.Fields
import Derived.Test.YtoidcbpcnikejaaGreatDoorDq10
import Derived.Test.YtoidcbpcnikejaaGreatDoorFrame
import Derived.Test.YtoidcbpcnikejaaGreatDoorDq02
set_option linter.unusedVariables false
set_option linter.unusedSimpArgs false
set_option maxRecDepth 100000
set_option maxHeartbeats 12800000
namespace Go.Proofs.YtoidcbpcnikejaaGreatDoor
open Go.RowKit
structure Trg where
 kind : Int
 target : Int
 act : Int
 a : Cr
 b : Cr
def Cr.list (c : Cr) : List Value := [.int .u64 (c.mi : Int), .int .u64 (c.h : Int), .int .u64 (c.d : Int), .int .u64 (c.mo : Int), .int .u64 (c.wk : Int), .bool c.ad, .bool c.aw]
def Trg.enc (t : Trg) : List Value := [.int .i64 t.kind, .int .i64 t.target, .int .i64 t.act, .int .u64 (t.a.mi : Int), .int .u64 (t.a.h : Int), .int .u64 (t.a.d : Int), .int .u64 (t.a.mo : Int), .int .u64 (t.a.wk : Int), .bool t.a.ad, .bool t.a.aw, .int .u64 (t.b.mi : Int), .int .u64 (t.b.h : Int), .int .u64 (t.b.d : Int), .int .u64 (t.b.mo : Int), .int .u64 (t.b.wk : Int), .bool t.b.ad, .bool t.b.aw]
theorem Trg.enc_length (t : Trg) : t.enc.length = 17 := rfl
def Trg.fits (t : Trg) : Prop := t.a.fits ∧ t.b.fits
def Cr.isZero (c : Cr) : Bool := c.mi == 0 && c.h == 0 && c.d == 0 && c.mo == 0 && c.wk == 0 && !c.ad && !c.aw
def wiB (n lo hi : Int) : Bool := decide (lo ≤ n) && decide (n ≤ hi)
def trigE (t : Trg) : Int :=
 if t.kind = 1 ∨ t.kind = 2 then (if wiB t.target 1 1000000 && (wiB t.act 0 1000000 && (t.a.isZero && t.b.isZero)) then 0 else 1)
 else if t.kind = 3 then (if wiB t.target 1 50 && t.act == 0 then spanE t.a t.b else 1) else 1
def trigsE : List Trg → Int
 | [] => 0
 | t :: l => if trigE t = 0 then trigsE l else trigE t
theorem trigsE_all {l : List Trg} (h : ∀ t ∈ l, trigE t = 0) : trigsE l = 0 := by
 induction l with
 | nil => rfl
 | cons t l ih => unfold trigsE; rw [if_pos (h t (by simp))]; exact ih fun u hu => h u (by simp [hu])
theorem trigsE_at {l : List Trg} : ∀ {k : Nat} {t : Trg}, l[k]? = some t → (∀ q u, q < k → l[q]? = some u → trigE u = 0) → trigE t ≠ 0 → trigsE l = trigE t := by
 induction l with
 | nil => intro k t h; simp at h
 | cons u l ih =>
  intro k t h hlo hne
  rcases k with _ | k
  ·simp at h; subst h; unfold trigsE; rw [if_neg hne]
  simp at h
  unfold trigsE
  rw [if_pos (hlo 0 u (by omega) rfl)]
  exact ih h (fun q v hq hv => hlo (q + 1) v (by omega) (by simpa using hv)) hne
theorem trigsE_mem {l : List Trg} (h : trigsE l = 0) : ∀ t ∈ l, trigE t = 0 := by
 induction l with
 | nil => intro t ht; cases ht
 | cons u l ih =>
  unfold trigsE at h
  by_cases hu : trigE u = 0
  ·rw [if_pos hu] at h
   intro t ht
   rcases List.mem_cons.1 ht with rfl | ht
   ·exact hu
   exact ih h t ht
  rw [if_neg hu] at h; exact absurd h hu
structure Pln where
 name : ByteArray
 mn : Int
 mx : Int
 poll : Int
 cool : Int
 tol : Int
 back : Int
 after : Int
 shift : Int
 up : G.Pace
 down : G.Pace
 trigs : List Trg
def byteOk (b : UInt8) : Bool := (decide (97 ≤ b.toNat) && decide (b.toNat ≤ 122)) || (decide (48 ≤ b.toNat) && decide (b.toNat ≤ 57)) || b == 45
def nameOk (s : ByteArray) : Bool := s.data.all byteOk && wiB s.size 1 16
def paceOk (p : G.Pace) : Bool := wiB p.win 0 100000 && (wiB p.pods 0 50 && (wiB p.pct 0 1000 && wiB p.per 0 100000))
def Pln.nums (p : Pln) : Bool := wiB p.mn 0 50 && (wiB p.mx (max 1 p.mn) 50 && (wiB p.poll 1 100000 && (wiB p.cool 1 100000 && (wiB p.tol 0 1000 && (wiB p.back 0 50 && (wiB p.after 0 100 && (wiB p.shift (-900) 900 && (paceOk p.up && paceOk p.down))))))))
def planE (p : Pln) : Int := if nameOk p.name = false then 3 else if 5 < p.trigs.length then 2 else if p.nums = false then 1 else trigsE p.trigs
structure Pln.ok (p : Pln) : Prop where
 mn : 0 ≤ p.mn ∧ p.mn ≤ 50
 mx : 1 ≤ p.mx ∧ p.mn ≤ p.mx ∧ p.mx ≤ 50
 poll : 1 ≤ p.poll ∧ p.poll ≤ 100000
 cool : 1 ≤ p.cool ∧ p.cool ≤ 100000
 tol : 0 ≤ p.tol ∧ p.tol ≤ 1000
 back : 0 ≤ p.back ∧ p.back ≤ 50
 after : 0 ≤ p.after ∧ p.after ≤ 100
 shift : -900 ≤ p.shift ∧ p.shift ≤ 900
 few : p.trigs.length ≤ 5
 each : ∀ t ∈ p.trigs, trigE t = 0
theorem wiB_iff {n lo hi : Int} : wiB n lo hi = true ↔ lo ≤ n ∧ n ≤ hi := by unfold wiB; simp
theorem planE_ok {p : Pln} (h : planE p = 0) : p.ok := by
 unfold planE at h
 split at h
 ·cases h
 split at h
 ·cases h
 split at h
 ·cases h
 rename_i h1 h2 h3
 have h3' : p.nums = true := by simpa using h3
 unfold Pln.nums at h3'
 simp only [Bool.and_eq_true, wiB_iff] at h3'
 obtain ⟨a, b, c, d, e, f, g, i, _, _⟩ := h3'
 exact ⟨a, ⟨by omega, by omega, b.2⟩, c, d, e, f, g, i, by omega, trigsE_mem h⟩
def Pln.head (p : Pln) (vt : Value) : List Value := [.string p.name, .int .i64 p.mn, .int .i64 p.mx, .int .i64 p.poll, .int .i64 p.cool, .int .i64 p.tol, .int .i64 p.back, .int .i64 p.after, .int .i64 p.shift, .int .i64 p.up.win, .int .i64 p.up.pods, .int .i64 p.up.pct, .int .i64 p.up.per, .int .i64 p.down.win, .int .i64 p.down.pods, .int .i64 p.down.pct, .int .i64 p.down.per, vt]
def plnV (p : Pln) (vt : Value) : Value := .agg #[.string p.name, .int .i64 p.mn, .int .i64 p.mx, .int .i64 p.poll, .int .i64 p.cool, .int .i64 p.tol, .int .i64 p.back, .int .i64 p.after, .int .i64 p.shift, .int .i64 p.up.win, .int .i64 p.up.pods, .int .i64 p.up.pct, .int .i64 p.up.per, .int .i64 p.down.win, .int .i64 p.down.pods, .int .i64 p.down.pct, .int .i64 p.down.per, vt]
def plnC (p : Pln) (vt : Value) : Array Value := #[.string p.name, .int .i64 p.mn, .int .i64 p.mx, .int .i64 p.poll, .int .i64 p.cool, .int .i64 p.tol, .int .i64 p.back, .int .i64 p.after, .int .i64 p.shift, .int .i64 p.up.win, .int .i64 p.up.pods, .int .i64 p.up.pct, .int .i64 p.up.per, .int .i64 p.down.win, .int .i64 p.down.pods, .int .i64 p.down.pct, .int .i64 p.down.per, vt]
open Go.RowKit
theorem planWithin (n lo hi : Int) (w : World) : Calls Tryz.prog 119 #[.int .i64 n, .int .i64 lo, .int .i64 hi] w fun e w' => e = .returned (.bool (wiB n lo hi)) ∧ w = w' := by
 by_cases h0 : lo ≤ n
 ·by_cases h1 : n ≤ hi
  ·have hv := J (show wiB n lo hi = true by unfold wiB; simp [h0, h1])
   go_enter Tryz.func119, Tryz.ntmps119
   go_wp2
   go_ret
   exact ⟨by rw [hv.u] <;> rfl, rfl⟩
  have hv := J (show wiB n lo hi = false by unfold wiB; simp [h1])
  have h2 : hi < n := by omega
  have h3 : decide (n ≤ hi) = false := decide_eq_false h1
  clear h1
  go_enter Tryz.func119, Tryz.ntmps119
  go_wp2
  go_ret
  exact ⟨by rw [hv.u] <;> rfl, rfl⟩
 have hv := J (show wiB n lo hi = false by unfold wiB; simp [h0])
 have h2 : n < lo := by omega
 clear h0
 go_enter Tryz.func119, Tryz.ntmps119
 go_wp2
 go_ret
 exact ⟨by rw [hv.u] <;> rfl, rfl⟩
def byteAt (s : ByteArray) (k : Nat) : Nat := (s.data[k]?.getD 0).toNat
theorem byte_at {s : ByteArray} {k : Nat} (h : k < s.size) : (s[k]'h).toNat = byteAt s k := by
 unfold byteAt
 have e : s.data[k]? = some (s.data[k]'h) := Array.getElem?_eq_getElem h
 rw [e]; rfl
def byteB (x : Nat) : Bool := (decide (97 ≤ x) && decide (x ≤ 122)) || (decide (48 ≤ x) && decide (x ≤ 57)) || x == 45
theorem byteB_is (b : UInt8) : byteB b.toNat = byteOk b := by
 unfold byteB byteOk
 congr 1
 rw [Bool.eq_iff_iff]
 simp only [beq_iff_eq]
 exact ⟨fun h => UInt8.toNat_inj.1 h, fun h => by rw [h]; rfl⟩
theorem name_all (s : ByteArray) : s.data.all byteOk = true ↔ ∀ k, k < s.size → byteB (byteAt s k) = true := by
 rw [Array.all_eq_true]
 constructor
 ·intro h k hk
  unfold byteAt
  rw [Array.getElem?_eq_getElem hk]
  show byteB _ = true
  rw [Option.getD_some, byteB_is]
  exact h k hk
 intro h k hk
 have := h k hk
 unfold byteAt at this
 rw [Array.getElem?_eq_getElem hk, Option.getD_some, byteB_is] at this
 exact this
theorem name_bad {s : ByteArray} {k : Nat} (hk : k < s.size) (h : byteB (byteAt s k) = false) : nameOk s = false := by
 unfold nameOk
 cases ha : s.data.all byteOk
 ·rfl
 rw [(name_all s).1 ha k hk] at h; cases h
theorem name_good {s : ByteArray} (h : ∀ k, k < s.size → byteB (byteAt s k) = true) : nameOk s = wiB s.size 1 16 := by
 unfold nameOk
 rw [(name_all s).2 h]; rfl
theorem byteAt_bd (s : ByteArray) (k : Nat) : byteAt s k ≤ 255 := by
 unfold byteAt
 have := UInt8.toNat_lt (s.data[k]?.getD 0)
 omega
theorem planNamed (s : ByteArray) (hs : s.size ≤ 9223372036854775807) (w : World) : Calls Tryz.prog 115 #[.string s] w fun e w' => e = .returned (.bool (nameOk s)) ∧ w = w' := by
 go_enter Tryz.func115, Tryz.ntmps115
 go_wp2_with fail
 go_loop [7] (fun i => ∃ k : Nat, k ≤ s.size ∧ i = .int .i64 k ∧ Hid (∀ q, q < k → byteB (byteAt s q) = true)) (fun i => s.size - (intOf i).toNat)
 case atStart => exact ⟨0, by omega, rfl, J (fun q hq => by omega)⟩
 obtain ⟨k, hk, rfl, HN⟩ := hrel
 by_cases hlt : k < s.size
 ·have i0 : (0 : Int) ≤ (k : Int) := by omega
  have i1 : (k : Int) < (s.size : Int) := by omega
  have HYes := J (fun (h : byteB (byteAt s k) = true) => (show ∀ q, q < k + 1 → byteB (byteAt s q) = true from fun q hq => by
   rcases Nat.lt_succ_iff_lt_or_eq.1 hq with c | c
   ·exact HN.u q c
   rw [c]; exact h))
  have HNo := J (fun (h : byteB (byteAt s k) = false) => name_bad hlt h)
  have HVal := J (show byteB (byteAt s k) = ((decide (97 ≤ byteAt s k) && decide (byteAt s k ≤ 122)) || (decide (48 ≤ byteAt s k) && decide (byteAt s k ≤ 57)) || byteAt s k == 45) from rfl)
  have hx := byteAt_bd s k
  go_upto_region 5 with fail
  rw [byte_at hlt]
  generalize byteAt s k = x at HYes HNo HVal hx ⊢
  have x0 : (0 : Int) ≤ (x : Int) := by omega
  have x1 : (x : Int) ≤ 255 := by omega
  have HK := J hlt
  clear hx hk
  by_cases a1 : x < 97
  ·by_cases b1 : x < 48
   ·by_cases c1 : x = 45
    ·have HF := J (HYes.u (by rw [HVal.u, c1]; rfl))
     subst c1
     clear a1 b1 x0 x1 HYes HNo HVal
     go_wp2_with fail
     go_round
     case rel => exact ⟨k + 1, by have := HK.u; omega, by go_num, HF⟩
     case measure => have := HK.u; simp [intOf]; omega
    have HF := J (HNo.u (by rw [HVal.u, decide_eq_false (show ¬ 97 ≤ x by omega), decide_eq_false (show ¬ 48 ≤ x by omega)]; simpa using c1))
    have c2 : ((x : Int) != 45) = true := by simp; omega
    have b2 : (x : Int) < 48 := by omega
    have a2 : (x : Int) < 97 := by omega
    clear a1 b1 c1 HYes HNo HVal
    go_wp2_with fail
    go_ret
    exact ⟨by rw [HF.u] <;> rfl, rfl⟩
   by_cases b2 : 57 < x
   ·have HF := J (HNo.u (by rw [HVal.u, decide_eq_false (show ¬ 97 ≤ x by omega), decide_eq_false (show ¬ x ≤ 57 by omega)]; simp; omega))
    have c2 : ((x : Int) != 45) = true := by simp; omega
    have b3 : (57 : Int) < (x : Int) := by omega
    have b4 : (48 : Int) ≤ (x : Int) := by omega
    have a2 : (x : Int) < 97 := by omega
    clear a1 b1 b2 HYes HNo HVal
    go_wp2_with fail
    go_ret
    exact ⟨by rw [HF.u] <;> rfl, rfl⟩
   have HF := J (HYes.u (by rw [HVal.u, decide_eq_true (show 48 ≤ x by omega), decide_eq_true (show x ≤ 57 by omega)]; simp))
   have b3 : (x : Int) ≤ 57 := by omega
   have b4 : (48 : Int) ≤ (x : Int) := by omega
   have a2 : (x : Int) < 97 := by omega
   clear a1 b1 b2 HYes HNo HVal
   go_wp2_with fail
   go_round
   case rel => exact ⟨k + 1, by have := HK.u; omega, by go_num, HF⟩
   case measure => have := HK.u; simp [intOf]; omega
  by_cases a2 : 122 < x
  ·have HF := J (HNo.u (by rw [HVal.u, decide_eq_false (show ¬ x ≤ 122 by omega), decide_eq_false (show ¬ x ≤ 57 by omega)]; simp; omega))
   have c2 : ((x : Int) != 45) = true := by simp; omega
   have a3 : (122 : Int) < (x : Int) := by omega
   have b4 : (57 : Int) < (x : Int) := by omega
   have a4 : (97 : Int) ≤ (x : Int) := by omega
   clear a1 a2 HYes HNo HVal
   go_wp2_with fail
   go_ret
   exact ⟨by rw [HF.u] <;> rfl, rfl⟩
  have HF := J (HYes.u (by rw [HVal.u, decide_eq_true (show 97 ≤ x by omega), decide_eq_true (show x ≤ 122 by omega)]; simp))
  have a3 : (x : Int) ≤ 122 := by omega
  have a4 : (97 : Int) ≤ (x : Int) := by omega
  clear a1 a2 HYes HNo HVal
  go_wp2_with fail
  go_round
  case rel => exact ⟨k + 1, by have := HK.u; omega, by go_num, HF⟩
  case measure => have := HK.u; simp [intOf]; omega
 have hie : k = s.size := by omega
 subst hie
 have HF := J (name_good HN.u)
 clear hk hlt
 go_wp2_with fail
 refine (planWithin _ 1 16 _).mono ?_
 rintro e w' ⟨rfl, rfl⟩
 go_wp2_with fail
 go_ret
 exact ⟨by rw [HF.u] <;> rfl, rfl⟩
open Go.ChangeShapes Go.WideShapes Go.ChangeAt Go.RowKit Go.Deep
def RowsAt (w : World) (k : Nat) (A : Option Addr) (l : List (List Int)) : Prop :=
 0 < l.length → ∃ b off, A = some ⟨b, off, none⟩ ∧ b < w.heap.size ∧ ∀ i row j x, l[i]? = some row → row[j]? = some x → w.cell? ⟨b, off + i * k + j, none⟩ = some (.int .i64 x)
theorem RowsAt.below {B k : Nat} {w w' : World} {A : Option Addr} {l : List (List Int)} (h : RowsAt w k A l) (hb : Below B w w') (hB : w.heap.size ≤ B) : RowsAt w' k A l := fun h0 => by
 obtain ⟨b, off, e, hlt, hc⟩ := h h0
 refine ⟨b, off, e, Nat.lt_of_lt_of_le hlt hb.size, fun i row j x h1 h2 => ?_⟩
 exact (hb.cell (p := ⟨b, off + i * k + j, none⟩) (by show b < B; omega)).trans (hc i row j x h1 h2)
section
variable {H : Type} {enc : TypeId × Value → H} {w : World} {base : Nat} {spare : Nat → Bool} {held : Bool}
end
open Go.RowKit
theorem buf_cells_in {w : World} {cs : Array Value} {T : TypeId} {H : Nat} (hH : w.heap.size = H) : ∀ (j : Nat) (u : Value), cs.toList[j]? = some u → (w.alloc (.cells cs T)).cell? ((⟨H, 0, none⟩ : Addr).add j) = some u := by
 subst hH; exact G.new_cells w cs T
theorem BAt.app {T : TypeId} {S : Nat → Prop} {w w1 : World} {g b cap : Nat} {l : List G.Req} {v : Value} {r : G.Req} {o : Obj} (h : BAt T S w g v l) (hT : T ≠ 181) (hl : l.length < 200)
  (h1 : w1.ownsRow 0 181 5 (.slice (some ⟨b, 0, none⟩) (l.length + 1) cap) (l.length + 1) (l.flatMap G.Req.enc ++ r.enc)) (hg : (w.alloc o).grownBy w1 v.ownBlock) (ho : v.ownBlock = some b ∨ b = w.heap.size + 1) (hlt : b < w1.heap.size) :
  (w1.cell? ⟨g, 0, none⟩ = some v ∧ w1.frozen? ⟨g, 0, none⟩ = false) ∧
  BAt T (G.Plus S w (w1.setCell ⟨g, 0, none⟩ (.slice (some ⟨b, 0, none⟩) (l.length + 1) cap))) (w1.setCell ⟨g, 0, none⟩ (.slice (some ⟨b, 0, none⟩) (l.length + 1) cap)) g (.slice (some ⟨b, 0, none⟩) (l.length + 1) cap) (l ++ [r]) ∧
  G.Chg S w (w1.setCell ⟨g, 0, none⟩ (.slice (some ⟨b, 0, none⟩) (l.length + 1) cap)) := by
 have z : (w.alloc o).heap.size = w.heap.size + 1 := by simp
 obtain ⟨r1, r2⟩ := (h.row.alloc o).app h1 hg (ho.imp id (fun e => by rw [e, z])) hlt
 have hA := (h.head.alloc o).grown hg (fun e => h.row.apartAt h.head (Ne.symm hT) g e rfl)
 have z2 := r2.size
 have e1 : (l ++ [r]).length = l.length + 1 := by simp
 have e2 : (l ++ [r]).flatMap G.Req.enc = l.flatMap G.Req.enc ++ r.enc := by simp
 refine ⟨⟨hA.here rfl, hA.soft 0⟩, ⟨hA.put 0 _, ?_, .inl h.own, by rw [e1]; omega, fun c hb => ?_⟩, ((G.Chg.refl S w).alloc o).trans (r2.put (.inl h.own) _)⟩
 ·rw [e1, e2]
  refine (r1.mono fun c hc hb => ?_).aside (p := ⟨g, 0, none⟩) (r1.apartAt hA (Ne.symm hT)) _
  rcases hb with hb | hb
  ·exact .inl hb
  exact .inr ⟨by omega, by rw [G.size_put]; exact hc⟩
 rcases hb with hb | hb
 ·have := h.lim c hb
  rw [G.size_put]; omega
 exact hb.2
def AskPost (T : TypeId) (S : Nat → Prop) (w : World) (g : Nat) (l : List G.Req) (now src ticks : Int) (e : Ending) (w' : World) : Prop :=
 e = .returned (.tuple #[.int .i64 (G.askNum l now src ticks), .int .i64 (G.askErr l now src ticks)]) ∧ (∃ v, BAt T (G.Plus S w w') w' g v (G.askLst l now src ticks)) ∧ G.Chg S w w'
theorem ask_no {T : TypeId} {S : Nat → Prop} {w w' : World} {g : Nat} {v : Value} {l : List G.Req} {now src ticks x : Int} (h : BAt T S w g v l) (hb : Below w.heap.size w w') (hx : x ≠ 0) (he : G.askErr l now src ticks = x) : AskPost T S w g l now src ticks (.returned (.tuple #[.int .i64 0, .int .i64 x])) w' := by
 refine ⟨by unfold G.askNum; rw [he, if_neg hx], ⟨v, ?_⟩, G.Chg.of_below hb (Nat.le_refl _)⟩
 unfold G.askLst; rw [he, if_neg hx]
 exact (h.below hb).up
theorem ask_yes {T : TypeId} {S : Nat → Prop} {w w1 w' : World} {g : Nat} {v : Value} {l : List G.Req} {now src ticks : Int} (hb : Below w.heap.size w w1) (h : BAt T (G.Plus S w1 w') w' g v (l ++ [⟨l.length + 1, src, now + ticks, 1, 0⟩])) (hc : G.Chg S w1 w') (hl : ∀ b, S b → b < w.heap.size) (he : G.askErr l now src ticks = 0) : AskPost T S w g l now src ticks (.returned (.tuple #[.int .i64 (l.length + 1), .int .i64 0])) w' := by
 have z1 := hb.size; have z2 := hc.size
 refine ⟨by unfold G.askNum; rw [he, if_pos rfl], ⟨v, ?_⟩, (G.Chg.of_below hb (Nat.le_refl _)).trans hc⟩
 unfold G.askLst; rw [he, if_pos rfl]
 refine h.mono (fun c hc hb => ?_) (fun c hb => ?_)
 ·rcases hb with hb | hb
  ·exact .inl hb
  exact .inr ⟨by omega, hb.2⟩
 rcases hb with hb | hb
 ·have := hl c hb; omega
 exact hb.2
theorem bufAsk (S : Nat → Prop) (g : Nat) (v : Value) (l : List G.Req) (now src ticks : Int) (w : World) (h : BAt 229 S w g v l) :
  Calls Tryz.prog 101 #[.pointer (some ⟨g, 0, none⟩), .int .i64 now, .int .i64 src, .int .i64 ticks] w (AskPost 229 S w g l now src ticks) := by
 obtain ⟨A, cap0, rfl, _, _, _⟩ := h.row.slice
 have hs := h.small
 have HH := J h
 clear h
 by_cases q1 : now < 0
 ·have HF := J (ask_no (now := now) (src := src) (ticks := ticks) HH.u (Below.refl _ _) (x := 1) (by decide) (by unfold G.askErr; rw [if_pos (by omega)]))
  go_enter Tryz.func101, Tryz.ntmps101
  go_wp2_with fail
  go_ret2
  exact HF.u
 by_cases q2 : 1099511627776 < now
 ·have HF := J (ask_no (now := now) (src := src) (ticks := ticks) HH.u (Below.refl _ _) (x := 1) (by decide) (by unfold G.askErr; rw [if_pos (by omega)]))
  have q1' : 0 ≤ now := by omega
  clear q1
  go_enter Tryz.func101, Tryz.ntmps101
  go_wp2_with fail
  go_ret2
  exact HF.u
 have q1' : 0 ≤ now := by omega
 have q2' : now ≤ 1099511627776 := by omega
 clear q1 q2
 by_cases q3 : ticks < 1
 ·have HF := J (ask_no (now := now) (src := src) (ticks := ticks) HH.u (Below.refl _ _) (x := 1) (by decide) (by unfold G.askErr; rw [if_pos (by omega)]))
  go_enter Tryz.func101, Tryz.ntmps101
  go_wp2_with fail
  go_ret2
  exact HF.u
 by_cases q4 : 100000 < ticks
 ·have HF := J (ask_no (now := now) (src := src) (ticks := ticks) HH.u (Below.refl _ _) (x := 1) (by decide) (by unfold G.askErr; rw [if_pos (by omega)]))
  have q3' : 1 ≤ ticks := by omega
  clear q3
  go_enter Tryz.func101, Tryz.ntmps101
  go_wp2_with fail
  go_ret2
  exact HF.u
 have q3' : 1 ≤ ticks := by omega
 have q4' : ticks ≤ 100000 := by omega
 clear q3 q4
 by_cases q5 : src < 0
 ·have HF := J (ask_no (now := now) (src := src) (ticks := ticks) HH.u (Below.refl _ _) (x := 4) (by decide) (by unfold G.askErr; rw [if_neg (by omega), if_pos (by omega)]))
  go_enter Tryz.func101, Tryz.ntmps101
  go_wp2_with fail
  go_ret2
  exact HF.u
 have q5' : 0 ≤ src := by omega
 clear q5
 by_cases q6 : 6 ≤ src
 ·have HF := J (ask_no (now := now) (src := src) (ticks := ticks) HH.u (Below.refl _ _) (x := 4) (by decide) (by unfold G.askErr; rw [if_neg (by omega), if_pos (by omega)]))
  go_enter Tryz.func101, Tryz.ntmps101
  go_wp2_with fail
  go_ret2
  exact HF.u
 have q6' : src < 6 := by omega
 clear q6
 have HE := J (show G.askErr l now src ticks = if G.countF src 1 l = 20 ∨ G.countF (-1) 1 l = 60 ∨ l.length = 200 then 6 else 0 from by unfold G.askErr; rw [if_neg (by omega), if_neg (by omega)])
 obtain ⟨i0, hi, hz0, hz1, hz2⟩ := info_parts info_req
 go_enter Tryz.func101, Tryz.ntmps101
 go_wp2_with fail
 refine (bufCount S g _ l src 1 _ HH.u).mono ?_
 rintro e w1 ⟨rfl, hb1⟩
 have HB1 := J hb1
 have HH1 := J (HH.u.below hb1)
 clear hb1
 generalize G.countF src 1 l = c1 at HE ⊢
 by_cases k1 : c1 = 20
 ·have HF := J (ask_no (now := now) (src := src) (ticks := ticks) HH.u HB1.u (x := 6) (by decide) (by rw [HE.u, if_pos (.inl k1)]))
  subst k1
  go_wp2_with fail
  go_ret2
  exact HF.u
 go_wp2_with fail
 refine (bufCount S g _ l (-1) 1 _ HH1.u).mono ?_
 rintro e w2 ⟨rfl, hb2⟩
 have HB2 := J (HB1.u.trans (hb2.mono HB1.u.size))
 have HH2 := J (HH1.u.below hb2)
 clear hb2
 generalize G.countF (-1) 1 l = c2 at HE ⊢
 by_cases k2 : c2 = 60
 ·have HF := J (ask_no (now := now) (src := src) (ticks := ticks) HH.u HB2.u (x := 6) (by decide) (by rw [HE.u, if_pos (.inr (.inl k2))]))
  subst k2
  clear k1
  go_wp2_with fail
  go_ret2
  exact HF.u
 have hc := HH2.u.head.here (i := 0) rfl
 by_cases k3 : (l.length : Int) = 200
 ·have HF := J (ask_no (now := now) (src := src) (ticks := ticks) HH.u HB2.u (x := 6) (by decide) (by rw [HE.u, if_pos (.inr (.inr (by omega)))]))
  clear k1
  go_wp2_with fail
  go_ret2
  exact HF.u
 have HE0 := J (show G.askErr l now src ticks = 0 by rw [HE.u, if_neg (by omega)])
 have hs' : (l.length : Int) < 200 := by omega
 have HL := J (show l.length < 200 by omega)
 have hm3 := J (show l.length + 1 ≤ maxLen by simp only [maxLen]; omega)
 have hm4 := J (show (l.length + 1) * 40 ≤ 140737488355328 by omega)
 have k3b : ((l.length : Int) == 200) = false := by simp only [beq_eq_false_iff_ne]; exact k3
 clear k1 HE k3
 go_wp2_with (at_builtin; refine wpList_append_lies _ (by rfl) (.tmp 57) (.tmp 64) 178 (by rfl) 0 181 i0 (.agg #[.int .i64 0, .int .i64 0, .int .i64 0, .int .i64 0, .int .i64 0]) 5 40 Tryz.underlying178 hi hz0 hz1 hz2 rfl (by decide) (.slice A l.length cap0) _ _ rfl (HH2.u.row.alloc _).owns ⟨w2.heap.size, 0, none⟩ 1 1 (G.Req.enc ⟨l.length + 1, src, now + ticks, 1, 0⟩) rfl rfl (buf_cells_in rfl) (by simp [Value.oneCell', G.Req.enc]) (by decide) hm3.u hm4.u (Nat.zero_le _) _ rfl ?_)
 intro b cap w3 hown hg ho hlt
 obtain ⟨⟨d9, f9⟩, hA, hC⟩ := HH2.u.app (by decide) HL.u hown hg ho hlt
 have HF := J (ask_yes HB2.u hA hC (fun b hb => HH.u.lim b hb) HE0.u)
 clear hown hg ho hlt hA hC hc
 go_wp2_with fail
 go_ret2
 exact HF.u
open Go.RowKit
theorem buf_info : (Tryz.prog.info? 181).map (fun i => (i.zero, i.size, i.bytes)) = some (some (.agg #[.int .i64 0, .int .i64 0, .int .i64 0, .int .i64 0, .int .i64 0]), 5, 40) := by kernel_rfl
theorem buf_one {l : List G.Req} : ∀ u ∈ l.flatMap G.Req.enc, u.oneCell' = true := by
 intro u hu
 obtain ⟨r, _, hr⟩ := List.mem_flatMap.1 hu
 simp [G.Req.enc] at hr
 rcases hr with h | h | h | h | h <;> subst h <;> rfl
def buf_ClonePost (w : World) (n : Nat) (xs : List Value) (e : Ending) (w' : World) : Prop := ∃ v', e = .returned v' ∧ G.OwnRow (fun b => w.heap.size ≤ b) w' 181 5 v' n xs ∧ Below w.heap.size w w'
theorem buf_clone (S : Nat → Prop) (w : World) (v : Value) (n : Nat) (xs : List Value) (h : G.OwnRow S w 181 5 v n xs) (hn : n ≤ 100000000) (h1 : ∀ u ∈ xs, u.oneCell' = true) :
  Calls Tryz.prog 158 #[v] w (buf_ClonePost w n xs) := by
 have heq := @Lib.run_eql_slice_nil Tryz.prog
 rcases h.2 with ⟨rfl, rfl⟩ | ⟨g, cap, rfl, hS, hcap, hmax, hrow⟩
 ·have hx : xs = [] := List.length_eq_zero_iff.1 (h.1.trans (Nat.zero_mul _))
  have HF := J (show buf_ClonePost w 0 xs (.returned (.slice none 0 0)) w from ⟨_, rfl, by rw [hx]; exact G.OwnRow.nil _ _ _ _, Below.refl _ _⟩)
  have hq := fun w => Lib.run_eql_slice_nil (P := Tryz.prog) w 178 181 none 0 0 0 0 Tryz.underlying178
  clear h hx heq
  go_enter Tryz.func158, Tryz.ntmps158
  go_wp2_with fail
  go_ret
  exact HF.u
 have hq := fun w => Lib.run_eql_slice_nil (P := Tryz.prog) w 178 181 (some ⟨g, 0, none⟩) n cap 0 0 Tryz.underlying178
 have hlen := h.1
 obtain ⟨i0, hi0, hz0, hz1, hz2⟩ := info_parts buf_info
 have HR := J hrow; have H1 := J h1; have HL := J hlen
 have hown : (w.alloc (.cells #[] 181)).ownsRow w.heap.size 181 5 (.slice (some ⟨w.heap.size, 0, none⟩) 0 0) 0 [] := World.ownsRow_made w #[] 0 (Nat.le_refl _) (Nat.zero_le _) rfl
 have HO := J hown
 have hm3 := J (show 0 + n ≤ maxLen by simp only [maxLen]; omega)
 have hm4 := J (show (0 + n) * 40 ≤ 140737488355328 by omega)
 clear h hrow h1 hlen hown hcap hmax hn heq
 go_enter Tryz.func158, Tryz.ntmps158
 go_wp2_with (at_builtin; refine wpList_append_own _ (by rfl) (.tmp 5) (.tmp 6) 178 (by rfl) w.heap.size 181 i0 (.agg #[.int .i64 0, .int .i64 0, .int .i64 0, .int .i64 0, .int .i64 0]) 5 40 Tryz.underlying178 hi0 hz0 hz1 hz2 rfl (by decide) _ _ _ rfl HO.u ⟨g, 0, none⟩ n cap xs rfl HL.u ?c1 H1.u hm3.u hm4.u ?c5 ?_)
 case c1 => exact fun j u hu => by rw [Addr.add_lit, Nat.zero_add]; exact (HR.u.alloc _).cell hu
 case c5 => simp
 intro v' w1 hown1 hg1 _
 have HF := J (show buf_ClonePost w n xs (.returned v') w1 from by
  refine ⟨v', rfl, ?_, (((Below.refl _ w).alloc (Nat.le_refl _) _)).grown hg1 (by simp) (fun k hk => by simp [Value.ownBlock] at hk; omega)⟩
  exact G.OwnRow.of_owns hown1 (G.own_ge hown1))
 clear hown1 hg1
 go_wp2_with fail
 go_ret
 exact HF.u
theorem firstN_some {l : List G.Req} {src : Int} {i : Nat} {r : G.Req} (h0 : G.countF src 2 l ≤ 0) (h : G.firstAt (G.waitsOf src) l = some i) (hr : l[i]? = some r) : G.firstN l src = r.id := by
 unfold G.firstN; rw [if_neg (by omega), h]; simp only; rw [hr]; rfl
theorem firstN_none {l : List G.Req} {src : Int} (h : G.firstAt (G.waitsOf src) l = none) : G.firstN l src = 0 := by
 unfold G.firstN; rw [h]; split <;> rfl
theorem bufFirst (S : Nat → Prop) (g : Nat) (v : Value) (l : List G.Req) (src : Int) (w : World) (h : BAt 229 S w g v l) :
  Calls Tryz.prog 185 #[.pointer (some ⟨g, 0, none⟩), .int .i64 src] w (ReadPost w (.int .i64 (G.firstN l src))) := by
 obtain ⟨A, cap, rfl, _, _, _⟩ := h.row.slice
 have hs := h.small
 have HH := J h
 clear h
 go_enter Tryz.func185, Tryz.ntmps185
 go_wp2_with fail
 refine (bufCount S g _ l src 2 _ HH.u).mono ?_
 rintro e w1 ⟨rfl, hb1⟩
 have HB1 := J hb1
 clear hb1
 by_cases k0 : 0 < G.countF src 2 l
 ·have HF := J (show ReadPost w (.int .i64 (G.firstN l src)) (.returned (.int .i64 0)) w1 from ⟨by unfold G.firstN; rw [if_pos k0], HB1.u⟩)
  go_wp2_with fail
  go_ret
  exact HF.u
 have k1 : G.countF src 2 l ≤ 0 := by omega
 have K0 := J k1
 have hc : w1.cell? ⟨g, 0, none⟩ = some (.slice A l.length cap) := (HH.u.below HB1.u).head.here rfl
 clear k0
 generalize G.countF src 2 l = c2 at k1 ⊢
 go_wp2_with fail
 go_loopw [16] (fun i wr => ∃ k : Nat, k ≤ l.length ∧ i = .int .i64 k ∧ Hid (∀ (t : Nat) (b : G.Req), t < k → l[t]? = some b → G.waitsOf src b = false) ∧ Below w.heap.size w wr) (fun i _ => l.length - (intOf i).toNat)
 case atStart => exact ⟨0, by omega, rfl, J (fun t b ht => by omega), HB1.u⟩
 clear hc
 obtain ⟨k, hk, rfl, hno, hb⟩ := hrel
 by_cases hlt : k < l.length
 ·obtain ⟨r, hr⟩ := G.get_some l hlt
  obtain ⟨b, cap', e, hS, _, _, hbl, c0, c1, c2', c3, c4, _⟩ := (HH.u.below hb).req hr
  cases e
  have i0 : (0 : Int) ≤ (k : Int) := by omega
  have i1 : (k : Int) < (l.length : Int) := by omega
  have HB := J (hb.alloc hb.size (.cells #[.int .i64 r.id, .int .i64 r.source, .int .i64 r.till, .int .i64 r.fate, .int .i64 r.pod] 181))
  have HR := J hr
  clear hr hb
  have HNo := J (show G.waitsOf src r = false → ∀ (t : Nat) (b : G.Req), t < k + 1 → l[t]? = some b → G.waitsOf src b = false from fun hw t b ht hb => by
   rcases Nat.lt_succ_iff_lt_or_eq.mp ht with h | h
   ·exact hno.u t b h hb
   subst h; rw [HR.u] at hb; cases hb; exact hw)
  cases hg : (r.source == src)
  ·have HN := J (HNo.u (by unfold G.waitsOf; rw [hg]; rfl))
   clear hno
   go_wp2_with fail
   go_roundw
   case rel => exact ⟨k + 1, by omega, by go_num, HN, HB.u⟩
   case measure => simp [intOf]; omega
  cases hf : (r.fate == 1)
  ·have HN := J (HNo.u (by unfold G.waitsOf; rw [hg, hf]; rfl))
   clear hno
   go_wp2_with fail
   go_roundw
   case rel => exact ⟨k + 1, by omega, by go_num, HN, HB.u⟩
   case measure => simp [intOf]; omega
  have HF := J (show ReadPost w (.int .i64 (G.firstN l src)) (.returned (.int .i64 r.id)) _ from ⟨by rw [firstN_some K0.u (G.firstAt_some hno.u HR.u (by unfold G.waitsOf; rw [hg, hf]; rfl)) HR.u], HB.u⟩)
  clear hno
  go_wp2_with fail
  go_ret
  exact HF.u
 have hke : k = l.length := by omega
 have HF := J (show ReadPost w (.int .i64 (G.firstN l src)) (.returned (.int .i64 0)) wr from ⟨by rw [firstN_none (G.firstAt_none fun t b hb => hno.u t b (by rw [hke]; exact G.get_lt hb) hb)], hb⟩)
 clear hb hno hke
 go_wp2_with fail
 go_ret
 exact HF.u
theorem reqAt_none {l : List G.Req} {id : Int} (h : G.reqAt l id = none) : id < 1 ∨ (l.length : Int) < id := by
 unfold G.reqAt at h
 by_cases h1 : 1 ≤ id
 ·rw [if_pos h1] at h
  have := List.getElem?_eq_none_iff.1 h
  omega
 omega
theorem reqAt_some {l : List G.Req} {id : Int} {r : G.Req} (h : G.reqAt l id = some r) : ∃ k : Nat, id = k + 1 ∧ l[k]? = some r := by
 unfold G.reqAt at h
 by_cases h1 : 1 ≤ id
 ·rw [if_pos h1] at h
  exact ⟨(id - 1).toNat, by omega, h⟩
 rw [if_neg h1] at h; cases h
theorem bufFind_none (S : Nat → Prop) (g : Nat) (v : Value) (l : List G.Req) (id : Int) (w : World) (h : BAt 229 S w g v l) (hn : G.reqAt l id = none) :
  Calls Tryz.prog 173 #[.pointer (some ⟨g, 0, none⟩), .int .i64 id] w fun e w' => e = .returned (.pointer none) ∧ w = w' := by
 obtain ⟨A, cap, rfl, _, _, _⟩ := h.row.slice
 have hc := h.head.here (i := 0) rfl
 have hx := reqAt_none hn
 clear h hn
 by_cases h1 : id < 1
 ·clear hx
  go_enter Tryz.func173, Tryz.ntmps173
  go_wp2_with fail
  go_ret
  exact ⟨rfl, rfl⟩
 have h2 : (l.length : Int) < id := by omega
 have h3 : 1 ≤ id := by omega
 clear hx h1
 go_enter Tryz.func173, Tryz.ntmps173
 go_wp2_with fail
 go_ret
 exact ⟨rfl, rfl⟩
theorem bufFind (S : Nat → Prop) (g b cap n : Nat) (l : List G.Req) (k : Nat) (w : World) (h : BAt 229 S w g (.slice (some ⟨b, 0, none⟩) n cap) l) (hk : k < l.length) :
  Calls Tryz.prog 173 #[.pointer (some ⟨g, 0, none⟩), .int .i64 (k + 1)] w fun e w' => e = .returned (.pointer (some ⟨b, k * 5, none⟩)) ∧ w = w' := by
 obtain ⟨A, cap', e, _, _, _⟩ := h.row.slice
 cases e
 have hc := h.head.here (i := 0) rfl
 have hs := h.small
 have h1 : (1 : Int) ≤ (k : Int) + 1 := by omega
 have h2 : (k : Int) + 1 ≤ (l.length : Int) := by omega
 have i0 : (0 : Int) ≤ (k : Int) := by omega
 have i1 : (k : Int) < (l.length : Int) := by omega
 clear h
 go_enter Tryz.func173, Tryz.ntmps173
 go_wp2_with fail
 go_ret
 exact ⟨by go_num, rfl⟩
theorem bufCount2 (S : Nat → Prop) (g : Nat) (v : Value) (l : List G.Req) (w : World) (h : BAt 229 S w g v l) :
  Calls Tryz.prog 162 #[.pointer (some ⟨g, 0, none⟩)] w (ReadPost w (.tuple #[.int .i64 (G.countF (-1) 1 l), .int .i64 (G.countF (-1) 2 l)])) := by
 have HH := J h
 clear h
 go_enter Tryz.func162, Tryz.ntmps162
 go_wp2_with fail
 refine (bufCount S g _ l (-1) 1 _ HH.u).mono ?_
 rintro e w1 ⟨rfl, hb1⟩
 have HB1 := J hb1
 clear hb1
 go_wp2_with fail
 refine (bufCount S g _ l (-1) 2 _ (HH.u.below HB1.u)).mono ?_
 rintro e w2 ⟨rfl, hb2⟩
 have HB2 := J (HB1.u.trans (hb2.mono HB1.u.size))
 clear hb2
 go_wp2_with fail
 go_ret2
 exact ⟨rfl, HB2.u⟩
def BufAllPost (w : World) (l : List G.Req) (e : Ending) (w' : World) : Prop := ∃ v', e = .returned v' ∧ G.OwnRow (fun b => w.heap.size ≤ b) w' 181 5 v' l.length (l.flatMap G.Req.enc) ∧ Below w.heap.size w w'
theorem bufAll (S : Nat → Prop) (g : Nat) (v : Value) (l : List G.Req) (w : World) (h : BAt 229 S w g v l) :
  Calls Tryz.prog 126 #[.pointer (some ⟨g, 0, none⟩)] w (BufAllPost w l) := by
 obtain ⟨A, cap, rfl, _, _, _⟩ := h.row.slice
 have hc := h.head.here (i := 0) rfl
 have HH := J h
 clear h
 go_enter Tryz.func126, Tryz.ntmps126
 go_wp2_with fail
 refine (buf_clone S _ _ _ _ HH.u.row (by have := HH.u.small; omega) buf_one).mono ?_
 rintro e w2 ⟨v', rfl, h2, hb2⟩
 have HF := J (show BufAllPost w l (.returned v') w2 from ⟨v', rfl, h2, hb2⟩)
 clear h2 hb2 hc
 go_wp2_with fail
 go_ret
 exact HF.u
theorem best_succ (l : List G.Req) (k : Nat) : (List.range (k + 1)).foldl (G.bestStep l) 0 = G.bestStep l ((List.range k).foldl (G.bestStep l) 0) k := by
 rw [List.range_succ, List.foldl_append]; rfl
theorem bufNext (S : Nat → Prop) (g : Nat) (v : Value) (l : List G.Req) (w : World) (h : BAt 229 S w g v l) :
  Calls Tryz.prog 166 #[.pointer (some ⟨g, 0, none⟩)] w (ReadPost w (.tuple #[.int .i64 (G.nextN l), .bool (decide (0 < G.nextN l))])) := by
 have HH := J h
 clear h
 go_enter Tryz.func166, Tryz.ntmps166
 go_wp2_with fail
 go_loopw [4, 7] (fun m i wr => ∃ k : Nat, k ≤ 6 ∧ i = .int .i64 k ∧ m = .int .i64 ((List.range k).foldl (G.bestStep l) 0) ∧ Below w.heap.size w wr) (fun _ i _ => 6 - (intOf i).toNat)
 case atStart => exact ⟨0, by omega, rfl, rfl, Below.refl _ _⟩
 obtain ⟨k, hk, rfl, rfl, hb⟩ := hrel
 have HB := J hb
 clear hb
 by_cases hlt : k < 6
 ·have i1 : (k : Int) < 6 := by omega
  have HS := J (best_succ l k)
  generalize (List.range k).foldl (G.bestStep l) 0 = best at HS ⊢
  go_wp2_with fail
  refine (bufFirst S g v l k _ (HH.u.below HB.u)).mono ?_
  rintro e w1 ⟨rfl, hb1⟩
  have HB1 := J (HB.u.trans (hb1.mono HB.u.size))
  clear hb1
  have HU := J (show G.bestStep l best k = if 0 < G.firstN l k ∧ (best = 0 ∨ G.firstN l k < best) then G.firstN l k else best from rfl)
  generalize G.firstN l k = f at HU ⊢
  by_cases q1 : 0 < f
  ·by_cases q2 : best = 0
   ·have HE := J (show f = (List.range (k + 1)).foldl (G.bestStep l) 0 by rw [HS.u, HU.u, if_pos ⟨q1, .inl q2⟩])
    subst q2
    go_wp2_with fail
    go_roundw
    case rel => exact ⟨k + 1, by omega, by go_num, by rw [← HE.u], HB1.u⟩
    case measure => simp [intOf]; omega
   by_cases q3 : f < best
   ·have HE := J (show f = (List.range (k + 1)).foldl (G.bestStep l) 0 by rw [HS.u, HU.u, if_pos ⟨q1, .inr q3⟩])
    go_wp2_with fail
    go_roundw
    case rel => exact ⟨k + 1, by omega, by go_num, by rw [← HE.u], HB1.u⟩
    case measure => simp [intOf]; omega
   have HE := J (show best = (List.range (k + 1)).foldl (G.bestStep l) 0 by rw [HS.u, HU.u, if_neg (by omega)])
   have q4 : ((best == 0) = true ∨ f < best) = False := by simp only [eq_iff_iff, iff_false, beq_iff_eq]; omega
   have q2b : (best == 0) = false := by simp only [beq_eq_false_iff_ne]; exact q2
   have q3' : best ≤ f := by omega
   clear q3
   go_wp2_with fail
   go_roundw
   case rel => exact ⟨k + 1, by omega, by go_num, by rw [← HE.u], HB1.u⟩
   case measure => simp [intOf]; omega
  have HE := J (show best = (List.range (k + 1)).foldl (G.bestStep l) 0 by rw [HS.u, HU.u, if_neg (by omega)])
  have q1' : f ≤ 0 := by omega
  clear q1
  go_wp2_with fail
  go_roundw
  case rel => exact ⟨k + 1, by omega, by go_num, by rw [← HE.u], HB1.u⟩
  case measure => simp [intOf]; omega
 have hke : k = 6 := by omega
 subst hke
 have HF := J (show ReadPost w (.tuple #[.int .i64 (G.nextN l), .bool (decide (0 < G.nextN l))]) (.returned (.tuple #[.int .i64 ((List.range 6).foldl (G.bestStep l) 0), .bool (decide (0 < (List.range 6).foldl (G.bestStep l) 0))])) wr from ⟨rfl, HB.u⟩)
 generalize (List.range 6).foldl (G.bestStep l) 0 = best at HF ⊢
 go_wp2_with fail
 go_ret2
 exact HF.u
open Go.RowKit
def RunPost (T : TypeId) (S : Nat → Prop) (w : World) (g : Nat) (l : List G.Req) (id pod : Int) (e : Ending) (w' : World) : Prop :=
 e = .returned (.int .i64 (G.runErr l id)) ∧ (∃ v, BAt T S w' g v (G.runLst l id pod)) ∧ G.Chg S w w'
theorem bufRun (S : Nat → Prop) (g : Nat) (v : Value) (l : List G.Req) (id pod : Int) (w : World) (h : BAt 229 S w g v l) :
  Calls Tryz.prog 168 #[.pointer (some ⟨g, 0, none⟩), .int .i64 id, .int .i64 pod] w (RunPost 229 S w g l id pod) := by
 have HH := J h
 clear h
 cases hq : G.reqAt l id with
 | none =>
  have HF := J (show RunPost 229 S w g l id pod (.returned (.int .i64 4)) w from ⟨by unfold G.runErr; rw [hq], ⟨v, by unfold G.runLst; rw [hq]; exact HH.u⟩, G.Chg.refl _ _⟩)
  have HQ := J hq
  clear hq
  go_enter Tryz.func168, Tryz.ntmps168
  go_wp2_with fail
  refine (bufFind_none S g v l id _ HH.u HQ.u).mono ?_
  rintro e w1 ⟨rfl, rfl⟩
  go_wp2_with fail
  go_ret
  exact HF.u
 | some r =>
  obtain ⟨k, rfl, hr⟩ := reqAt_some hq
  obtain ⟨b, cap, rfl, hS, _, _, hbl, c0, c1, c2, c3, c4, fz⟩ := HH.u.req hr
  have hkl := G.get_lt hr
  have HR := J hr; have HQ := J hq; have HK := J hkl
  clear hr hq hkl c0 c2 c3 c4 fz hbl
  go_enter Tryz.func168, Tryz.ntmps168
  go_wp2_with fail
  refine (bufFind S g b cap _ l k _ HH.u HK.u).mono ?_
  rintro e w1 ⟨rfl, rfl⟩
  go_wp2_with fail
  refine (bufFirst S g _ l r.source _ HH.u).mono ?_
  rintro e w1 ⟨rfl, hb1⟩
  have HB1 := J hb1
  clear hb1 c1
  by_cases hf : G.firstN l r.source = (k : Int) + 1
  ·have HF := J hf
   obtain ⟨b', cap', e, hS', _, _, hbl, c0, c1, c2, c3, c4, fz⟩ := (HH.u.below HB1.u).req HR.u
   cases e
   have f3 := fz (k * 5 + 3); have f4 := fz (k * 5 + 4)
   clear fz c0 c1 c2
   rw [hf]
   clear hf
   go_wp2_with fail
   go_ret
   obtain ⟨p1, p2⟩ := (HH.u.below HB1.u).put (by decide) (k := k) (j := 3) (r' := { r with fate := 2 }) (u := .int .i64 2) HR.u (by decide) rfl
   obtain ⟨p3, p4⟩ := p1.put (by decide) (k := k) (j := 4) (r' := { r with fate := 2, pod := pod }) (u := .int .i64 pod) (List.getElem?_set_self HK.u) (by decide) rfl
   rw [List.set_set] at p3
   refine ⟨?_, ⟨.slice (some ⟨b, 0, none⟩) l.length cap, ?_⟩, ((G.Chg.of_below HB1.u (Nat.le_refl _)).trans p2).trans p4⟩
   ·unfold G.runErr; rw [HQ.u]; simp only; rw [if_pos HF.u]; rfl
   unfold G.runLst; rw [HQ.u]; simp only; rw [if_pos HF.u, show ((k : Int) + 1 - 1).toNat = k by omega]; exact p3
  have HF := J (show RunPost 229 S w g l ((k : Int) + 1) pod (.returned (.int .i64 7)) w1 from ⟨by unfold G.runErr; rw [HQ.u]; simp only; rw [if_neg hf], ⟨_, by unfold G.runLst; rw [HQ.u]; simp only; rw [if_neg hf]; exact HH.u.below HB1.u⟩, G.Chg.of_below HB1.u (Nat.le_refl _)⟩)
  generalize G.firstN l r.source = f at hf ⊢
  have hf2 : ((k : Int) + 1 == f) = false := by simp only [beq_eq_false_iff_ne]; exact fun e => hf e.symm
  have hf3 : (f == (k : Int) + 1) = false := by simp only [beq_eq_false_iff_ne]; exact hf
  go_wp2_with fail
  go_ret
  exact HF.u
def DonePost (T : TypeId) (S : Nat → Prop) (w : World) (g : Nat) (l : List G.Req) (id : Int) (e : Ending) (w' : World) : Prop :=
 e = .returned (.tuple #[.int .i64 (G.doneNum l id), .int .i64 (G.doneErr l id)]) ∧ (∃ v, BAt T S w' g v (G.doneLst l id)) ∧ G.Chg S w w'
theorem bufDone (S : Nat → Prop) (g : Nat) (v : Value) (l : List G.Req) (id : Int) (w : World) (h : BAt 229 S w g v l) :
  Calls Tryz.prog 141 #[.pointer (some ⟨g, 0, none⟩), .int .i64 id] w (DonePost 229 S w g l id) := by
 have HH := J h
 clear h
 cases hq : G.reqAt l id with
 | none =>
  have HF := J (show DonePost 229 S w g l id (.returned (.tuple #[.int .i64 0, .int .i64 4])) w from ⟨by unfold G.doneErr G.doneNum; rw [hq], ⟨v, by unfold G.doneLst; rw [hq]; exact HH.u⟩, G.Chg.refl _ _⟩)
  have HQ := J hq
  clear hq
  go_enter Tryz.func141, Tryz.ntmps141
  go_wp2_with fail
  refine (bufFind_none S g v l id _ HH.u HQ.u).mono ?_
  rintro e w1 ⟨rfl, rfl⟩
  go_wp2_with fail
  go_ret2
  exact HF.u
 | some r =>
  obtain ⟨k, rfl, hr⟩ := reqAt_some hq
  obtain ⟨b, cap, rfl, hS, _, _, hbl, c0, c1, c2, c3, c4, fz⟩ := HH.u.req hr
  have hkl := G.get_lt hr
  have f3 := fz (k * 5 + 3)
  have HR := J hr; have HQ := J hq; have HK := J hkl
  clear hr hq hkl c0 c1 c2 fz hbl
  go_enter Tryz.func141, Tryz.ntmps141
  go_wp2_with fail
  refine (bufFind S g b cap _ l k _ HH.u HK.u).mono ?_
  rintro e w1 ⟨rfl, rfl⟩
  by_cases hf : r.fate = 2
  ·have HF := J hf
   rw [hf] at c3
   clear hf
   go_wp2_with fail
   go_ret2
   obtain ⟨p1, p2⟩ := HH.u.put (by decide) (k := k) (j := 3) (r' := { r with fate := 3 }) (u := .int .i64 3) HR.u (by decide) rfl
   refine ⟨?_, ⟨.slice (some ⟨b, 0, none⟩) l.length cap, ?_⟩, p2⟩
   ·unfold G.doneErr G.doneNum; rw [HQ.u]; simp only; rw [if_pos HF.u, if_pos HF.u]; rfl
   unfold G.doneLst; rw [HQ.u]; simp only; rw [if_pos HF.u, show ((k : Int) + 1 - 1).toNat = k by omega]; exact p1
  have HF := J (show DonePost 229 S w g l ((k : Int) + 1) (.returned (.tuple #[.int .i64 0, .int .i64 7])) w from ⟨by unfold G.doneErr G.doneNum; rw [HQ.u]; simp only; rw [if_neg hf, if_neg hf], ⟨_, by unfold G.doneLst; rw [HQ.u]; simp only; rw [if_neg hf]; exact HH.u⟩, G.Chg.refl _ _⟩)
  have hf3 : (r.fate == 2) = false := by simp only [beq_eq_false_iff_ne]; exact hf
  go_wp2_with fail
  go_ret2
  exact HF.u
end Go.Proofs.YtoidcbpcnikejaaGreatDoor
