/- Parts of this claim: BufR, StbC, StbD, StbE, Frame, OpenRows. -/
import Derived.RegionTactic
import Derived.Deep.RegionLaw
import Derived.Deep.DeepCutAuto
import Derived.IntWalk
import Derived.ProofKit
import Derived.OpenShut
import Derived.Deep.Slices
import Derived.Deep.Fields
import Derived.Test.YtidonhndeohdlaaGreatWl02
set_option linter.unusedVariables false
set_option linter.unusedSimpArgs false
set_option maxRecDepth 100000
set_option maxHeartbeats 12800000
namespace G
def Step (a r : Req) : Prop := r.source = a.source ∧ r.till = a.till ∧ (a.fate = r.fate ∨ a.fate = 1 ∧ r.fate = 2 ∨ a.fate = 1 ∧ r.fate = 4 ∨ a.fate = 2 ∧ r.fate = 3 ∨ a.fate = 2 ∧ r.fate = 5)
def Steps (l l' : List Req) : Prop := l.length ≤ l'.length ∧ ∀ (k : Nat) (a : Req), l[k]? = some a → ∃ r, l'[k]? = some r ∧ Step a r
structure Fair (l : List Req) : Prop where
 num : Numbered l
 one : ∀ s : Int, countF s 2 l ≤ 1 ∨ s < 0
 first : ∀ (i : Nat) (r : Req), l[i]? = some r → r.fate = 2 → ∀ (j : Nat) (x : Req), j < i → l[j]? = some x → waitsOf r.source x = false
theorem Fair.nil : Fair [] := ⟨fun k r h => by simp at h, fun s => .inl (by simp [countF]), fun i r h => by simp at h⟩
theorem Step.refl (a : Req) : Step a a := ⟨rfl, rfl, .inl rfl⟩
theorem Steps.refl (l : List Req) : Steps l l := ⟨Nat.le_refl _, fun k a h => ⟨a, h, Step.refl a⟩⟩
theorem count_le {p q : Req → Bool} : ∀ {l l' : List Req}, l'.length = l.length → (∀ (k : Nat) (r' : Req), l'[k]? = some r' → ∃ r, l[k]? = some r ∧ (p r' = true → q r = true)) → l'.countP p ≤ l.countP q
 | [], [], _, _ => Nat.le_refl _
 | [], a' :: l', h, _ => by simp at h
 | a :: l, [], h, _ => by simp at h
 | a :: l, a' :: l', h, hk => by
  have ih := count_le (l := l) (l' := l') (p := p) (q := q) (by simpa using h) (fun k r' hr => by
   obtain ⟨r, h1, h2⟩ := hk (k + 1) r' (by simpa using hr)
   exact ⟨r, by simpa using h1, h2⟩)
  obtain ⟨r, h1, h2⟩ := hk 0 a' rfl
  simp at h1; subst h1
  rw [List.countP_cons, List.countP_cons]
  cases ha : p a'
  ·simp; omega
  rw [h2 ha]; simp; omega
theorem Fair.calm {l l' : List Req} (h : Fair l) (hl : l'.length = l.length) (hk : ∀ (k : Nat) (r' : Req), l'[k]? = some r' → ∃ r, l[k]? = some r ∧ r'.id = r.id ∧ r'.source = r.source ∧ (r'.fate = 1 → r.fate = 1) ∧ (r'.fate = 2 → r.fate = 2)) : Fair l' := by
 refine ⟨fun k r' hr => ?_, fun s => ?_, fun i r' hi hf j x' hj hx => ?_⟩
 ·obtain ⟨r, h1, h2, h3, _⟩ := hk k r' hr
  rw [h2, h3]; exact h.num k r h1
 ·rcases h.one s with h1 | h1
  ·refine .inl ?_
   have := count_le (p := hasF s 2) (q := hasF s 2) hl (fun k r' hr => by
    obtain ⟨r, e1, _, e3, _, e5⟩ := hk k r' hr
    refine ⟨r, e1, ?_⟩
    unfold hasF
    rw [e3, Bool.and_eq_true, Bool.and_eq_true]
    rintro ⟨f1, f2⟩
    exact ⟨by have := e5 (by simpa using f1); simpa using this, f2⟩)
   unfold countF at *; omega
  exact .inr h1
 obtain ⟨r, h1, _, h3, _, h5⟩ := hk i r' hi
 obtain ⟨x, f1, _, f3, f4, _⟩ := hk j x' hx
 have := h.first i r h1 (h5 hf) j x hj f1
 rw [h3]
 unfold waitsOf at this ⊢
 rw [f3]
 cases hs : (x.source == r.source)
 ·rfl
 rw [hs, Bool.true_and] at this
 rw [Bool.true_and]
 simp only [beq_eq_false_iff_ne] at this ⊢
 exact fun e => this (f4 e)
theorem Fair.map {l : List Req} (h : Fair l) (p : Req → Bool) (f : Int) (h1 : f ≠ 1) (h2 : f ≠ 2) : Fair (l.map (setF p f)) := by
 refine h.calm (by simp) fun k r' hk => ?_
 rw [List.getElem?_map] at hk
 obtain ⟨r, e1, rfl⟩ := Option.map_eq_some_iff.1 hk
 refine ⟨r, e1, ?_⟩
 unfold setF
 split
 ·exact ⟨rfl, rfl, fun e => absurd e h1, fun e => absurd e h2⟩
 exact ⟨rfl, rfl, id, id⟩
theorem steps_map {l : List Req} (p : Req → Bool) (f : Int) (hp : ∀ r, p r = true → Step r { r with fate := f }) : Steps l (l.map (setF p f)) := by
 refine ⟨by simp, fun k a ha => ⟨setF p f a, by rw [List.getElem?_map, ha]; rfl, ?_⟩⟩
 unfold setF
 split
 ·rename_i e; exact hp a e
 exact Step.refl a
theorem fair_late {l : List Req} (h : Fair l) (x : Int) : Fair (lateLst l x) ∧ Steps l (lateLst l x) := by
 unfold lateLst; split
 ·refine ⟨h.map _ _ (by decide) (by decide), steps_map _ _ fun r hr => ⟨rfl, rfl, ?_⟩⟩
  unfold isLate at hr
  rw [Bool.and_eq_true] at hr
  exact .inr (.inr (.inl ⟨by simpa using hr.1, rfl⟩))
 exact ⟨h, Steps.refl l⟩
theorem fair_lost {l : List Req} (h : Fair l) (x : Int) : Fair (lostLst l x) ∧ Steps l (lostLst l x) := by
 refine ⟨h.map _ _ (by decide) (by decide), steps_map _ _ fun r hr => ⟨rfl, rfl, ?_⟩⟩
 unfold isLost at hr
 rw [Bool.and_eq_true] at hr
 exact .inr (.inr (.inr (.inr ⟨by simpa using hr.1, rfl⟩)))
theorem set_get {l : List Req} {k : Nat} {r q : Req} (hr : l[k]? = some r) {j : Nat} {x : Req} (hx : (l.set k q)[j]? = some x) : (j = k ∧ x = q) ∨ (j ≠ k ∧ l[j]? = some x) := by
 by_cases e : k = j
 ·subst e
  rw [List.getElem?_set_self (get_lt hr)] at hx
  exact .inl ⟨rfl, (Option.some.inj hx).symm⟩
 rw [List.getElem?_set_ne e] at hx
 exact .inr ⟨fun c => e c.symm, hx⟩
theorem steps_set {l : List Req} {k : Nat} {r q : Req} (hr : l[k]? = some r) (h : Step r q) : Steps l (l.set k q) := by
 refine ⟨by simp, fun j a ha => ?_⟩
 by_cases e : k = j
 ·subst e
  rw [hr] at ha; cases ha
  exact ⟨q, List.getElem?_set_self (get_lt hr), h⟩
 exact ⟨a, by rw [List.getElem?_set_ne e]; exact ha, Step.refl a⟩
theorem fair_done {l : List Req} (h : Fair l) (id : Int) : Fair (doneLst l id) ∧ Steps l (doneLst l id) := by
 unfold doneLst
 cases hq : reqAt l id with
 | none => exact ⟨h, Steps.refl l⟩
 | some r =>
  simp only
  split
  ·rename_i hf
   have hr := reqAt_get hq
   refine ⟨h.calm (by simp) fun k r' hk => ?_, steps_set hr ⟨rfl, rfl, .inr (.inr (.inr (.inl ⟨hf, rfl⟩)))⟩⟩
   rcases set_get hr hk with ⟨rfl, rfl⟩ | ⟨_, h1⟩
   ·exact ⟨r, hr, rfl, rfl, fun e => absurd e (show (3 : Int) ≠ 1 by decide), fun e => absurd e (show (3 : Int) ≠ 2 by decide)⟩
   exact ⟨r', h1, rfl, rfl, fun e => e, fun e => e⟩
  exact ⟨h, Steps.refl l⟩
theorem fair_run {l : List Req} (h : Fair l) (id pod : Int) : Fair (runLst l id pod) ∧ Steps l (runLst l id pod) := by
 unfold runLst
 cases hq : reqAt l id with
 | none => exact ⟨h, Steps.refl l⟩
 | some r =>
  simp only
  split
  ·rename_i hf
   have hr := reqAt_get hq
   have hid : id = ((id - 1).toNat : Int) + 1 := by
    unfold reqAt at hq; split at hq
    ·omega
    cases hq
   rw [hid] at hf
   generalize (id - 1).toNat = k at hr hf
   rw [firstN_is h.num hr, Bool.and_eq_true] at hf
   obtain ⟨f1, f2⟩ := hf
   unfold freeF at f1
   rw [Bool.and_eq_true] at f1
   have hf1 : r.fate = 1 := by simpa using f1.1
   have hc0 : countF r.source 2 l = 0 := by simpa using f1.2
   have hno : ∀ (j : Nat) (x : Req), j < k → l[j]? = some x → waitsOf r.source x = false := fun j x hj hx => by
    have e3 : (l.take k).any (waitsOf r.source) = false := by simpa using f2
    rw [List.any_eq_false] at e3
    have := e3 x (List.mem_of_getElem? (i := j) (by rw [List.getElem?_take, if_pos hj]; exact hx))
    simpa using this
   refine ⟨⟨fun j x hx => ?_, fun s => ?_, fun i x hi hxf j y hj hy => ?_⟩, steps_set hr ⟨rfl, rfl, .inr (.inl ⟨hf1, rfl⟩)⟩⟩
   ·rcases set_get hr hx with ⟨rfl, rfl⟩ | ⟨_, h1⟩
    ·exact h.num j r hr
    exact h.num j x h1
   ·rcases h.one s with h1 | h1
    ·by_cases hs : 0 ≤ s
     ·refine .inl ?_
      by_cases e : r.source = s
      ·subst e
       have := List.countP_set (p := hasF r.source 2) (a := { r with fate := 2, pod := pod }) (get_lt hr)
       unfold countF at *
       rw [this]
       split <;> split <;> omega
      have : (l.set k { r with fate := 2, pod := pod }).countP (hasF s 2) ≤ l.countP (hasF s 2) := count_le (by simp) fun j x hx => by
       rcases set_get hr hx with ⟨rfl, rfl⟩ | ⟨_, h1⟩
       ·refine ⟨r, hr, fun c => ?_⟩
        unfold hasF at c
        rw [Bool.and_eq_true, Bool.or_eq_true] at c
        rcases c.2 with c2 | c2
        ·simp at c2; omega
        simp at c2; exact absurd c2 e
       exact ⟨x, h1, fun e => e⟩
      unfold countF at *; omega
     exact .inr (by omega)
    exact .inr h1
   have hy' : l[j]? = some y ∨ y.fate = 2 := by
    rcases set_get hr hy with ⟨_, rfl⟩ | ⟨_, h1⟩
    ·exact .inr rfl
    exact .inl h1
   have hw2 : y.fate = 2 → ∀ s, waitsOf s y = false := fun e s => by unfold waitsOf; rw [e]; simp
   rcases hy' with hy' | hy'
   ·rcases set_get hr hi with ⟨rfl, rfl⟩ | ⟨_, h1⟩
    ·exact hno j y hj hy'
    exact h.first i x h1 hxf j y hj hy'
   exact hw2 hy' _
  exact ⟨h, Steps.refl l⟩
theorem fair_ask {l : List Req} (h : Fair l) (now src ticks : Int) : Fair (askLst l now src ticks) ∧ Steps l (askLst l now src ticks) := by
 unfold askLst
 split
 ·rename_i he
  unfold askErr at he
  split at he
  ·cases he
  split at he
  ·cases he
  rename_i h1 h2
  have hg : ∀ (k : Nat) (x : Req), (l ++ [⟨l.length + 1, src, now + ticks, 1, 0⟩])[k]? = some x → (k < l.length ∧ l[k]? = some x) ∨ (k = l.length ∧ x = ⟨l.length + 1, src, now + ticks, 1, 0⟩) := fun k x hk => by
   rcases Nat.lt_trichotomy k l.length with c | c | c
   ·rw [List.getElem?_append_left c] at hk; exact .inl ⟨c, hk⟩
   ·subst c
    rw [List.getElem?_append_right (Nat.le_refl _), Nat.sub_self] at hk
    simp at hk; exact .inr ⟨rfl, hk.symm⟩
   rw [List.getElem?_eq_none (by simp; omega)] at hk; cases hk
  refine ⟨⟨fun k r hk => ?_, fun s => ?_, fun i r hi hf j x hj hx => ?_⟩, by simp, fun k a ha => ⟨a, ?_, Step.refl a⟩⟩
  ·rcases hg k r hk with ⟨_, e⟩ | ⟨rfl, rfl⟩
   ·exact h.num k r e
   exact ⟨rfl, by simp only; omega, by simp only; omega⟩
  ·rcases h.one s with e | e
   ·refine .inl ?_
    unfold countF at *
    rw [List.countP_append, List.countP_singleton]
    have : hasF s 2 ⟨l.length + 1, src, now + ticks, 1, 0⟩ = false := by unfold hasF; simp
    rw [this]; simpa using e
   exact .inr e
  ·rcases hg i r hi with ⟨c, e⟩ | ⟨_, rfl⟩
   ·rcases hg j x hx with ⟨_, e2⟩ | ⟨c2, _⟩
    ·exact h.first i r e hf j x hj e2
    omega
   exact absurd hf (show (1 : Int) ≠ 2 by decide)
  rw [List.getElem?_append_left (get_lt ha)]; exact ha
 exact ⟨h, Steps.refl l⟩
end G
namespace Go.Proofs.YtidonhndeohdlaaGreat
open Go.RowKit
theorem stbClip (n : Int) (w : World) : Calls Tryz.prog 128 #[.int .i64 n] w fun e w' => e = .returned (.int .i64 (G.clipT n)) ∧ w' = w := by
 by_cases h0 : n < 0
 ·go_enter Tryz.func128, Tryz.ntmps128
  go_wp2_with fail
  go_ret
  exact ⟨ret_int (by unfold G.clipT; omega), rfl⟩
 have h1 : 0 ≤ n := by omega
 by_cases h2 : 100000 < n
 ·clear h0
  go_enter Tryz.func128, Tryz.ntmps128
  go_wp2_with fail
  go_ret
  exact ⟨ret_int (by unfold G.clipT; omega), rfl⟩
 have h3 : n ≤ 100000 := by omega
 clear h0 h2
 go_enter Tryz.func128, Tryz.ntmps128
 go_wp2_with fail
 go_ret
 exact ⟨ret_int (by unfold G.clipT; omega), rfl⟩
def paceV (p : G.Pace) : Value := .agg #[.int .i64 p.win, .int .i64 p.pods, .int .i64 p.pct, .int .i64 p.per]
theorem stbRight (p : G.Pace) (w : World) : Calls Tryz.prog 100 #[paceV p] w fun e w' => e = .returned (paceV p.fix) ∧ Below w.heap.size w w' := by
 unfold paceV
 go_enter Tryz.func100, Tryz.ntmps100
 go_wp2_with fail
 go_region_held3 (fun w' => w'.cell? ⟨w.heap.size, 0, none⟩ = some (.int .i64 p.win) ∧ w'.cell? ⟨w.heap.size, 1, none⟩ = some (.int .i64 p.pods) ∧ w'.cell? ⟨w.heap.size, 2, none⟩ = some (.int .i64 p.pct) ∧ w'.cell? ⟨w.heap.size, 3, none⟩ = some (.int .i64 p.per)) (go_keep) (first | (go_at_call 128; refine (stbClip _ _).mono ?_; rintro e w' ⟨rfl, rfl⟩))
 all_goals
  go_wp2_with fail
  refine bodyPost_ret (v := paceV p.fix) (by simp [results, Tryz.results100, go_sem, paceV, G.Pace.fix]) rfl ⟨rfl, ?_⟩
  exact (((Below.refl _ _).alloc (Nat.le_refl _) _).alloc (by simp) _).drew
def BehindPost (w : World) (l : List G.Mark) (at0 : Int) (e : Ending) (w' : World) : Prop := ∃ v', e = .returned v' ∧ G.ListIn w' 2 G.encM v' (G.behindL l at0) ∧ w = w'
theorem behind_list {w : World} {b off n cap i : Nat} {l : List G.Mark} (hc : ∀ (i : Nat) (a : G.Mark) (j : Nat) (u : Value), l[i]? = some a → (G.encM a)[j]? = some u → w.cell? ⟨b, off + i * 2 + j, none⟩ = some u) (hb : b < w.heap.size) (hn : l.length = n) (hi : i ≤ n) (hcap : n ≤ cap) :
  G.ListIn w 2 G.encM (.slice (if cap = i then some ⟨b, off, none⟩ else some ⟨b, off + i * 2, none⟩) (n - i) (cap - i)) (l.drop i) := by
 refine ⟨_, cap - i, by rw [List.length_drop, hn], fun h0 => ?_⟩
 rw [List.length_drop] at h0
 rw [if_neg (by omega)]
 refine ⟨b, off + i * 2, rfl, hb, fun k a j u hk hu => ?_⟩
 rw [List.getElem?_drop] at hk
 have := hc (i + k) a j u hk hu
 rw [show off + i * 2 + k * 2 + j = off + (i + k) * 2 + j by omega]
 exact this
theorem stbBehind (v : Value) (l : List G.Mark) (at0 : Int) (S : Nat → Prop) (w : World) (h : G.OwnRow S w 200 2 v l.length (l.flatMap G.encM)) (hl : l.length ≤ 1000000) :
  Calls Tryz.prog 164 #[v, .int .i64 at0] w (BehindPost w l at0) := by
 rcases h.2 with ⟨rfl, h0⟩ | ⟨b, cap, rfl, hS, hcap, hmax, hrow⟩
 ·have hz : l = [] := List.length_eq_zero_iff.1 h0
  subst hz
  have HF := J (show BehindPost w [] at0 (.returned (.slice none 0 0)) w from ⟨_, rfl, ⟨none, 0, rfl, fun h => by simp [G.behindL] at h⟩, rfl⟩)
  clear h h0
  go_enter Tryz.func164, Tryz.ntmps164
  go_wp2_with fail
  go_loop [5] (fun i => i = .int .i64 0) (fun _ => 0)
  case atStart => rfl
  subst hrel
  go_wp2_with fail
  go_ret
  exact HF.u
 obtain ⟨k0, rfl⟩ : ∃ m, cap = m := ⟨_, rfl⟩
 have hm : cap ≤ 9223372036854775807 := hmax
 have HR := J hrow
 have hbw := hrow.inside
 clear h hrow hmax
 go_enter Tryz.func164, Tryz.ntmps164
 go_wp2_with fail
 go_loop [5] (fun i => ∃ k : Nat, k ≤ l.length ∧ i = .int .i64 k ∧ Hid (∀ m ∈ l.drop k, at0 < m.1)) (fun i => (intOf i).toNat)
 case atStart => exact ⟨l.length, Nat.le_refl _, rfl, by simp [Hid]⟩
 obtain ⟨k, hk, rfl, hall⟩ := hrel
 by_cases hz : k = 0
 ·subst hz
  have HF := J (show BehindPost w l at0 (.returned (.slice (some ⟨b, 0, none⟩) l.length cap)) w from ⟨_, rfl, by
   rw [G.behind_eq (Nat.zero_le _) hall.u (.inl rfl), List.drop_zero]
   exact ⟨_, cap, rfl, fun _ => ⟨b, 0, rfl, hbw, fun i a j u h1 h2 => by rw [Nat.zero_add]; exact HR.u.cell (G.flat_get G.encM_length h1 h2)⟩⟩, rfl⟩)
  go_wp2_with fail
  go_ret
  exact HF.u
 obtain ⟨m, hm1⟩ := G.get_some l (show k - 1 < l.length by omega)
 have c0 := HR.u.cell (G.flat_get (j := 0) G.encM_length hm1 rfl)
 obtain ⟨q, rfl⟩ : ∃ q, k = q + 1 := ⟨k - 1, by omega⟩
 rw [Nat.add_sub_cancel] at c0 hm1
 simp only [Nat.add_zero] at c0
 have i0 : (0 : Int) ≤ (q : Int) := by omega
 have i1 : (q : Int) < (l.length : Int) := by omega
 have HM := J hm1
 clear hm1 hz
 by_cases hat : at0 < m.1
 ·have HN := J (show ∀ m' ∈ l.drop q, at0 < m'.1 from fun m' hm' => by
   rw [G.drop_of_get HM.u] at hm'
   rcases List.mem_cons.1 hm' with e | e
   ·subst e; exact hat
   exact hall.u m' e)
  clear hall
  go_wp2_with fail
  go_round
  case rel => exact ⟨q, by omega, by go_num, HN⟩
  case measure => simp [intOf] <;> omega
 have hle : m.1 ≤ at0 := by omega
 have e := J (G.behind_eq hk hall.u (.inr ⟨m, by rw [Nat.add_sub_cancel]; exact HM.u, hle⟩))
 have HF := J (show BehindPost w l at0 (.returned (.slice (if cap = q + 1 then some ⟨b, 0, none⟩ else some ⟨b, 0 + (q + 1) * 2, none⟩) (l.length - (q + 1)) (cap - (q + 1)))) w from ⟨_, rfl, by
  rw [e.u]
  exact behind_list (fun i a j u h1 h2 => by rw [Nat.zero_add]; exact HR.u.cell (G.flat_get G.encM_length h1 h2)) hbw rfl hk hcap, rfl⟩)
 rw [Nat.zero_add] at HF
 have q1 : q + 1 ≤ cap := by omega
 have q2 : (0 : Int) ≤ (q : Int) + 1 := by omega
 have q3 : (q : Int) + 1 ≤ (l.length : Int) := by omega
 clear hall hat
 by_cases hcc : cap = q + 1
 ·subst hcc
  rw [if_pos rfl, show l.length - (q + 1) = 0 by omega, Nat.sub_self] at HF
  go_wp2_with fail
  go_ret
  exact HF.u
 rw [if_neg hcc] at HF
 go_wp2_with fail
 go_ret
 exact HF.u
theorem stbLimited (p : G.Pace) (w : World) : Calls Tryz.prog 165 #[.agg #[.int .i64 p.win, .int .i64 p.pods, .int .i64 p.pct, .int .i64 p.per]] w fun e w' => e = .returned (.bool p.limited) ∧ Below w.heap.size w w' := by
 have hb := fun o => ((Below.refl _ w).alloc (Nat.le_refl _) o)
 have HB := J hb
 clear hb
 by_cases h0 : 0 < p.per
 ·by_cases h1 : 0 < p.pods
  ·go_enter Tryz.func165, Tryz.ntmps165
   go_wp2_with fail
   go_ret
   exact ⟨by simp [G.Pace.limited, h0, h1], HB.u _⟩
  have h1' : p.pods ≤ 0 := by omega
  by_cases h2 : 0 < p.pct
  ·go_enter Tryz.func165, Tryz.ntmps165
   go_wp2_with fail
   go_ret
   exact ⟨by simp [G.Pace.limited, h0, h1, h2], HB.u _⟩
  have h2' : p.pct ≤ 0 := by omega
  go_enter Tryz.func165, Tryz.ntmps165
  go_wp2_with fail
  go_ret
  exact ⟨by simp [G.Pace.limited, h0, h1, h2], HB.u _⟩
 have h0' : p.per ≤ 0 := by omega
 go_enter Tryz.func165, Tryz.ntmps165
 go_wp2_with fail
 go_ret
 exact ⟨by simp [G.Pace.limited]; omega, HB.u _⟩
structure StbAt (T TM : TypeId) (S : Nat → Prop) (w : World) (g : Nat) (s : G.Stb) (vw vm : Value) : Prop where
 head : G.At w g T #[.int .i64 s.up.win, .int .i64 s.up.pods, .int .i64 s.up.pct, .int .i64 s.up.per, .int .i64 s.down.win, .int .i64 s.down.pods, .int .i64 s.down.pct, .int .i64 s.down.per, .int .i64 s.last, vw, vm]
 wan : G.OwnRow S w TM 2 vw s.wanted.length (s.wanted.flatMap G.encM)
 mov : G.OwnRow S w TM 2 vm s.moved.length (s.moved.flatMap G.encM)
 apart : ∀ b, vw.ownBlock = some b → vm.ownBlock ≠ some b
 own : S g
 lim : ∀ b, S b → b < w.heap.size
theorem StbAt.chg {T TM : TypeId} {S C : Nat → Prop} {w w' : World} {g : Nat} {s : G.Stb} {vw vm : Value} (h : StbAt T TM S w g s vw vm) (hc : G.Chg C w w') (hs : ∀ b, S b → ¬ C b) : StbAt T TM S w' g s vw vm :=
 ⟨h.head.chg hc (hs g h.own), h.wan.chg hc hs, h.mov.chg hc hs, h.apart, h.own, fun b hb => Nat.lt_of_lt_of_le (h.lim b hb) hc.size⟩
theorem StbAt.below {T TM : TypeId} {S : Nat → Prop} {w w' : World} {g : Nat} {s : G.Stb} {vw vm : Value} (h : StbAt T TM S w g s vw vm) (hb : Below w.heap.size w w') : StbAt T TM S w' g s vw vm :=
 h.chg (C := fun _ => False) (G.Chg.of_below hb (Nat.le_refl _)) (fun _ _ h => h)
theorem mark_at {w wr : World} {v : Value} {l : List G.Mark} (h : G.ListIn w 2 G.encM v l) (hb : Below w.heap.size w wr) {k : Nat} {m : G.Mark} (hk : l[k]? = some m) :
  ∃ b off cap, v = .slice (some ⟨b, off, none⟩) l.length cap ∧ wr.cell? ⟨b, off + k * 2, none⟩ = some (.int .i64 m.1) ∧ wr.cell? ⟨b, off + k * 2 + 1, none⟩ = some (.int .i64 m.2) := by
 obtain ⟨A, cap, rfl, hA⟩ := h
 obtain ⟨b, off, rfl, hlt, hc⟩ := hA (by have := G.get_lt hk; omega)
 exact ⟨b, off, cap, rfl, (hb.cell (p := ⟨b, off + k * 2, none⟩) hlt).trans (hc k m 0 _ hk rfl), (hb.cell (p := ⟨b, off + k * 2 + 1, none⟩) hlt).trans (hc k m 1 _ hk rfl)⟩
theorem list_slice {α : Type} {enc : α → List Value} {k : Nat} {w : World} {v : Value} {l : List α} (h : G.ListIn w k enc v l) : ∃ A cap, v = .slice A l.length cap := by
 obtain ⟨A, cap, e, _⟩ := h; exact ⟨A, cap, e⟩
open Go.RowKit
def LongPost (w : World) (n : Int) (e : Ending) (w' : World) : Prop := e = .returned (.int .i64 n) ∧ Below w.heap.size w w'
theorem stbMore (S : Nat → Prop) (g : Nat) (s : G.Stb) (vw vm : Value) (now have0 want : Int) (w : World) (j : Nat) (h : StbAt 155 200 S w g s vw vm) (hs : s.ok j) (hj : j ≤ 100000) (n0 : 0 ≤ now) (n1 : now ≤ 1099511627776) (h0 : 0 ≤ have0) (h1 : have0 ≤ 50) (w0 : 0 ≤ want) (w1 : want ≤ 50) :
  Calls Tryz.prog 149 #[.pointer (some ⟨g, 0, none⟩), .int .i64 now, .int .i64 have0, .int .i64 want] w (LongPost w (G.moreN s now have0 want)) := by
 obtain ⟨⟨u0, u1⟩, ⟨u2, u3⟩, ⟨u4, u5⟩, ⟨u6, u7⟩⟩ := hs.up
 have c0 := h.head.here (i := 0) rfl
 have c3 : w.cell? ⟨g, 9, none⟩ = some vw := h.head.here rfl
 have HH := J h; have HS := J hs
 have e1 : IntKind.i64.wrap (now - s.up.win) = now - s.up.win := IntWalk.i64_in _ (by omega)
 clear h hs
 go_enter Tryz.func149, Tryz.ntmps149
 go_wp2_with fail
 go_region_held3 (fun w' => w'.cell? ⟨g, 0, none⟩ = some (.int .i64 s.up.win) ∧ w'.cell? ⟨g, 9, none⟩ = some vw) (go_keep) (first | (go_at_call 164; refine (stbBehind vw s.wanted _ S _ HH.u.wan.drew (by have := HS.u.wlen; omega)).mono ?_; rintro e w' ⟨v1, rfl, hl1, rfl⟩; obtain ⟨A1, cap1, rfl⟩ := list_slice hl1))
 all_goals
  have HL := J hl1
  have hLen : (G.behindL s.wanted (now - s.up.win)).length ≤ 100000 := by have := G.behindL_length s.wanted (now - s.up.win); have := HS.u.wlen; omega
  have hMem := J (fun m hm => (HS.u.wan m (G.behindL_mem (l := s.wanted) (at0 := now - s.up.win) m hm)).1)
  obtain ⟨L, hL⟩ : ∃ L, G.behindL s.wanted (now - s.up.win) = L := ⟨_, rfl⟩
  rw [hL] at HL hLen hMem ⊢
  have HLe := J hL
  clear hl1 c0 c3 e1 hL
  go_wp2_with fail
  go_loopw [3, 30] (fun x3 i wr => ∃ k : Nat, k ≤ L.length ∧ i = .int .i64 k ∧ x3 = .int .i64 (G.minAll (L.take k) want) ∧ Below w.heap.size w wr) (fun _ i _ => L.length - (intOf i).toNat)
  case atStart => exact ⟨0, by omega, rfl, rfl, (Below.refl _ _).drew⟩
  obtain ⟨k, hk, rfl, rfl, hb⟩ := hrel
  by_cases hlt : k < L.length
  ·obtain ⟨m, hm⟩ := G.get_some L hlt
   obtain ⟨b, off, cap', e, d0, d1⟩ := mark_at (w := w.drew) HL.u (wr := wr) ⟨hb.os, hb.tape, hb.output, hb.size, hb.block⟩ hm
   cases e
   have i0 : (0 : Int) ≤ (k : Int) := by omega
   have i1 : (k : Int) < (L.length : Int) := by omega
   have HF := J (G.fold_snoc (f := fun (a : Int) (m : G.Mark) => min a m.2) (x := want) hm)
   change Hid (G.minAll (L.take (k + 1)) want = min (G.minAll (L.take k) want) m.2) at HF
   generalize G.minAll (L.take k) want = a at HF ⊢
   have HB := J (hb.alloc hb.size (.cells #[.int .i64 m.1, .int .i64 m.2] 200))
   clear hb hm
   by_cases hc : m.2 < a
   ·go_wp2_with fail
    go_roundw
    case rel => exact ⟨k + 1, by omega, by go_num, by rw [HF.u, show min a m.2 = m.2 by omega], HB.u⟩
    case measure => simp [intOf]; omega
   have hc' : a ≤ m.2 := by omega
   go_wp2_with fail
   go_roundw
   case rel => exact ⟨k + 1, by omega, by go_num, by rw [HF.u, show min a m.2 = a by omega], HB.u⟩
   case measure => simp [intOf]; omega
  have hke : k = L.length := by omega
  subst hke
  rw [List.take_length]
  have hmb := G.minAll_bd L want w0 w1 hMem.u
  have HM1 := J (show G.moreN s now have0 want = max (if s.up.limited then min (G.minAll L want) (G.baseUp s now have0 + max s.up.pods (G.ceilc (G.baseUp s now have0 * s.up.pct) 100)) else G.minAll L want) have0 by unfold G.moreN; rw [HLe.u])
  generalize G.minAll L want = a at HM1 hmb ⊢
  obtain ⟨a0, a1⟩ := hmb
  have h2 := HH.u.below hb
  have d0 := h2.head.here (i := 0) rfl; have d1 := h2.head.here (i := 1) rfl; have d2 := h2.head.here (i := 2) rfl; have d3 := h2.head.here (i := 3) rfl
  have H2 := J h2; have HB := J hb
  clear h2 hb
  go_wp2_with fail
  refine (stbLimited s.up _).mono ?_
  rintro e w2 ⟨rfl, hb2⟩
  have hB2 := HB.u.trans (hb2.mono HB.u.size)
  have h3 := HH.u.below hB2
  clear d0 d1 d2 d3 hb2
  cases hlim : s.up.limited
  ·have HF := J (show LongPost w (G.moreN s now have0 want) (.returned (.int .i64 (max a have0))) w2 from ⟨by rw [HM1.u, hlim]; rfl, hB2⟩)
   clear h3 hB2 hlim
   by_cases hc : a < have0
   ·rw [show max a have0 = have0 by omega] at HF
    go_wp2_with fail
    go_ret
    exact HF.u
   rw [show max a have0 = a by omega] at HF
   have hc' : have0 ≤ a := by omega
   go_wp2_with fail
   go_ret
   exact HF.u
  have d3 := h3.head.here (i := 3) rfl
  have d10 : w2.cell? ⟨g, 10, none⟩ = some vm := h3.head.here rfl
  have H3 := J h3; have HB2 := J hB2
  have e1 : IntKind.i64.wrap (now - s.up.per) = now - s.up.per := IntWalk.i64_in _ (by omega)
  have HLM := J hlim
  clear h3 hB2 hlim
  go_wp2_with fail
  go_region_held3 (fun w' => w'.cell? ⟨g, 3, none⟩ = some (.int .i64 s.up.per) ∧ w'.cell? ⟨g, 10, none⟩ = some vm) (go_keep) (first | (go_at_call 164; refine (stbBehind vm s.moved _ S _ H3.u.mov.drew (by have := HS.u.mlen; omega)).mono ?_; rintro e w' ⟨v2, rfl, hl2, rfl⟩; obtain ⟨A2, cap2, rfl⟩ := list_slice hl2))
  all_goals
   have HL2 := J hl2
   have hLen2 : (G.behindL s.moved (now - s.up.per)).length ≤ 100000 := by have := G.behindL_length s.moved (now - s.up.per); have := HS.u.mlen; omega
   have hMem2 := J (fun m hm => (HS.u.mov m (G.behindL_mem (l := s.moved) (at0 := now - s.up.per) m hm)).1)
   obtain ⟨M, hM⟩ : ∃ M, G.behindL s.moved (now - s.up.per) = M := ⟨_, rfl⟩
   rw [hM] at HL2 hLen2 hMem2 ⊢
   have HMe := J hM
   clear hl2 d3 d10 e1 hM
   go_wp2_with fail
   go_loopw [11, 57] (fun x3 i wr => ∃ k : Nat, k ≤ M.length ∧ i = .int .i64 k ∧ x3 = .int .i64 (G.sumUp (M.take k) 0) ∧ Below w2.heap.size w2 wr) (fun _ i _ => M.length - (intOf i).toNat)
   case atStart => exact ⟨0, by omega, rfl, rfl, (Below.refl _ _).drew⟩
   obtain ⟨k, hk, rfl, rfl, hb⟩ := hrel
   by_cases hlt : k < M.length
   ·obtain ⟨m, hm⟩ := G.get_some M hlt
    obtain ⟨b, off, cap', e, d0, d1⟩ := mark_at (w := w2.drew) HL2.u (wr := wr) ⟨hb.os, hb.tape, hb.output, hb.size, hb.block⟩ hm
    cases e
    have i0 : (0 : Int) ≤ (k : Int) := by omega
    have i1 : (k : Int) < (M.length : Int) := by omega
    have hmb := hMem2.u m (List.mem_of_getElem? hm)
    have hsb := G.sumUp_bd (M.take k) 0 (fun m hm => hMem2.u m (List.mem_of_mem_take hm))
    have hkl : ((M.take k).length : Int) ≤ 100000 := by rw [List.length_take]; omega
    have HF := J (G.fold_snoc (f := fun (a : Int) (m : G.Mark) => a + max m.2 0) (x := 0) hm)
    change Hid (G.sumUp (M.take (k + 1)) 0 = G.sumUp (M.take k) 0 + max m.2 0) at HF
    generalize G.sumUp (M.take k) 0 = t at HF hsb ⊢
    have t0 : 0 ≤ t := hsb.1
    have t1 : t ≤ 5000000 := by omega
    obtain ⟨m0, m1⟩ := hmb
    have HB := J (hb.alloc hb.size (.cells #[.int .i64 m.1, .int .i64 m.2] 200))
    clear hb hm hsb hkl
    by_cases hc : m.2 < 0
    ·go_wp2_with fail
     go_roundw
     case rel => exact ⟨k + 1, by omega, by go_num, by rw [HF.u, show t + max m.2 0 = t by omega], HB.u⟩
     case measure => simp [intOf]; omega
    have hc' : 0 ≤ m.2 := by omega
    go_wp2_with fail
    go_roundw
    case rel => exact ⟨k + 1, by omega, by go_num, by rw [HF.u, show t + max m.2 0 = t + m.2 by omega], HB.u⟩
    case measure => simp [intOf]; omega
   have hke : k = M.length := by omega
   subst hke
   rw [List.take_length]
   have hsb := G.sumUp_bd M 0 hMem2.u
   have HBu := J (show G.baseUp s now have0 = max (have0 - G.sumUp M 0) 0 by unfold G.baseUp; rw [HMe.u])
   generalize G.sumUp M 0 = t at HBu hsb ⊢
   have t0 : 0 ≤ t := hsb.1
   have t1 : t ≤ 5000000 := by omega
   have HB3 := J (HB2.u.trans (hb.mono HB2.u.size))
   have h4 := H3.u.below hb
   have d1 := h4.head.here (i := 1) rfl
   have d2 := h4.head.here (i := 2) rfl
   clear hb h4 hsb
   go_upto_region 13 with fail
   go_cut [14] (fun s14 wx => s14 = .int .i64 (max (have0 - t) 0) ∧ wx = wr)
   case first =>
    by_cases hc : have0 - t < 0
    ·go_wp2_with fail
     go_meet
     exact ⟨by rw [show max (have0 - t) 0 = 0 by omega], rfl⟩
    have hc' : 0 ≤ have0 - t := by omega
    go_wp2_with fail
    go_meet
    exact ⟨by rw [show max (have0 - t) 0 = have0 - t by omega], rfl⟩
   obtain ⟨rfl, rfl⟩ := hcut
   have B0 : 0 ≤ max (have0 - t) 0 := by omega
   have B1 : max (have0 - t) 0 ≤ 50 := by omega
   generalize max (have0 - t) 0 = B at HBu B0 B1 ⊢
   obtain ⟨q0, q1⟩ := G.mul_bd B0 B1 u4 u5
   have q2 : B * s.up.pct ≤ 5000000 := by omega
   clear q1
   go_wp2_with fail
   refine (numCeil_yes _ _ _ (by omega)).mono ?_
   rintro e w' ⟨rfl, rfl⟩
   obtain ⟨z0, z1⟩ := G.ceilc_bd (B * s.up.pct)
   have HFn := J (show ∀ x, x = max (min a (B + max s.up.pods (G.ceilc (B * s.up.pct) 100))) have0 → LongPost w (G.moreN s now have0 want) (.returned (.int .i64 x)) _ from fun x hx => ⟨by rw [HM1.u, HLM.u, HBu.u, hx]; rfl, HB3.u⟩)
   generalize G.ceilc (B * s.up.pct) 100 = C at HFn z0 z1 ⊢
   clear HM1 HBu q0 q2
   go_wp2_with fail
   all_goals
    go_ret
    exact HFn.u _ (by omega)
open Go.RowKit
theorem stbFewer (S : Nat → Prop) (g : Nat) (s : G.Stb) (vw vm : Value) (now have0 want : Int) (w : World) (j : Nat) (h : StbAt 155 200 S w g s vw vm) (hs : s.ok j) (hj : j ≤ 100000) (n0 : 0 ≤ now) (n1 : now ≤ 1099511627776) (h0 : 0 ≤ have0) (h1 : have0 ≤ 50) (w0 : 0 ≤ want) (w1 : want ≤ 50) :
  Calls Tryz.prog 150 #[.pointer (some ⟨g, 0, none⟩), .int .i64 now, .int .i64 have0, .int .i64 want] w (LongPost w (G.fewerN s now have0 want)) := by
 obtain ⟨⟨u0, u1⟩, ⟨u2, u3⟩, ⟨u4, u5⟩, ⟨u6, u7⟩⟩ := hs.down
 have c0 := h.head.here (i := 4) rfl
 have c3 : w.cell? ⟨g, 9, none⟩ = some vw := h.head.here rfl
 have HH := J h; have HS := J hs
 have e1 : IntKind.i64.wrap (now - s.down.win) = now - s.down.win := IntWalk.i64_in _ (by omega)
 clear h hs
 go_enter Tryz.func150, Tryz.ntmps150
 go_wp2_with fail
 go_region_held3 (fun w' => w'.cell? ⟨g, 4, none⟩ = some (.int .i64 s.down.win) ∧ w'.cell? ⟨g, 9, none⟩ = some vw) (go_keep) (first | (go_at_call 164; refine (stbBehind vw s.wanted _ S _ HH.u.wan.drew (by have := HS.u.wlen; omega)).mono ?_; rintro e w' ⟨v1, rfl, hl1, rfl⟩; obtain ⟨A1, cap1, rfl⟩ := list_slice hl1))
 all_goals
  have HL := J hl1
  have hLen : (G.behindL s.wanted (now - s.down.win)).length ≤ 100000 := by have := G.behindL_length s.wanted (now - s.down.win); have := HS.u.wlen; omega
  have hMem := J (fun m hm => (HS.u.wan m (G.behindL_mem (l := s.wanted) (at0 := now - s.down.win) m hm)).1)
  obtain ⟨L, hL⟩ : ∃ L, G.behindL s.wanted (now - s.down.win) = L := ⟨_, rfl⟩
  rw [hL] at HL hLen hMem ⊢
  have HLe := J hL
  clear hl1 c0 c3 e1 hL
  go_wp2_with fail
  go_loopw [3, 27] (fun x3 i wr => ∃ k : Nat, k ≤ L.length ∧ i = .int .i64 k ∧ x3 = .int .i64 (G.maxAll (L.take k) want) ∧ Below w.heap.size w wr) (fun _ i _ => L.length - (intOf i).toNat)
  case atStart => exact ⟨0, by omega, rfl, rfl, (Below.refl _ _).drew⟩
  obtain ⟨k, hk, rfl, rfl, hb⟩ := hrel
  by_cases hlt : k < L.length
  ·obtain ⟨m, hm⟩ := G.get_some L hlt
   obtain ⟨b, off, cap', e, d0, d1⟩ := mark_at (w := w.drew) HL.u (wr := wr) ⟨hb.os, hb.tape, hb.output, hb.size, hb.block⟩ hm
   cases e
   have i0 : (0 : Int) ≤ (k : Int) := by omega
   have i1 : (k : Int) < (L.length : Int) := by omega
   have HF := J (G.fold_snoc (f := fun (a : Int) (m : G.Mark) => max a m.2) (x := want) hm)
   change Hid (G.maxAll (L.take (k + 1)) want = max (G.maxAll (L.take k) want) m.2) at HF
   generalize G.maxAll (L.take k) want = a at HF ⊢
   have HB := J (hb.alloc hb.size (.cells #[.int .i64 m.1, .int .i64 m.2] 200))
   clear hb hm
   by_cases hc : a < m.2
   ·go_wp2_with fail
    go_roundw
    case rel => exact ⟨k + 1, by omega, by go_num, by rw [HF.u, show max a m.2 = m.2 by omega], HB.u⟩
    case measure => simp [intOf]; omega
   have hc' : m.2 ≤ a := by omega
   go_wp2_with fail
   go_roundw
   case rel => exact ⟨k + 1, by omega, by go_num, by rw [HF.u, show max a m.2 = a by omega], HB.u⟩
   case measure => simp [intOf]; omega
  have hke : k = L.length := by omega
  subst hke
  rw [List.take_length]
  have hmb := G.maxAll_bd L want w0 w1 hMem.u
  have HM1 := J (show G.fewerN s now have0 want = min (if s.down.limited then max (G.maxAll L want) (G.baseDown s now have0 - max s.down.pods (G.sharec (G.baseDown s now have0) (10 * s.down.pct))) else G.maxAll L want) have0 by unfold G.fewerN; rw [HLe.u])
  generalize G.maxAll L want = a at HM1 hmb ⊢
  obtain ⟨a0, a1⟩ := hmb
  have h2 := HH.u.below hb
  have d0 := h2.head.here (i := 4) rfl; have d1 := h2.head.here (i := 5) rfl; have d2 := h2.head.here (i := 6) rfl; have d3 := h2.head.here (i := 7) rfl
  have H2 := J h2; have HB := J hb
  clear h2 hb
  go_wp2_with fail
  refine (stbLimited s.down _).mono ?_
  rintro e w2 ⟨rfl, hb2⟩
  have hB2 := HB.u.trans (hb2.mono HB.u.size)
  have h3 := HH.u.below hB2
  clear d0 d1 d2 d3 hb2
  cases hlim : s.down.limited
  ·have HF := J (show LongPost w (G.fewerN s now have0 want) (.returned (.int .i64 (min a have0))) w2 from ⟨by rw [HM1.u, hlim]; rfl, hB2⟩)
   clear h3 hB2 hlim
   by_cases hc : have0 < a
   ·rw [show min a have0 = have0 by omega] at HF
    go_wp2_with fail
    go_ret
    exact HF.u
   rw [show min a have0 = a by omega] at HF
   have hc' : a ≤ have0 := by omega
   go_wp2_with fail
   go_ret
   exact HF.u
  have d3 := h3.head.here (i := 7) rfl
  have d10 : w2.cell? ⟨g, 10, none⟩ = some vm := h3.head.here rfl
  have H3 := J h3; have HB2 := J hB2
  have e1 : IntKind.i64.wrap (now - s.down.per) = now - s.down.per := IntWalk.i64_in _ (by omega)
  have HLM := J hlim
  clear h3 hB2 hlim
  go_wp2_with fail
  go_region_held3 (fun w' => w'.cell? ⟨g, 7, none⟩ = some (.int .i64 s.down.per) ∧ w'.cell? ⟨g, 10, none⟩ = some vm) (go_keep) (first | (go_at_call 164; refine (stbBehind vm s.moved _ S _ H3.u.mov.drew (by have := HS.u.mlen; omega)).mono ?_; rintro e w' ⟨v2, rfl, hl2, rfl⟩; obtain ⟨A2, cap2, rfl⟩ := list_slice hl2))
  all_goals
   have HL2 := J hl2
   have hLen2 : (G.behindL s.moved (now - s.down.per)).length ≤ 100000 := by have := G.behindL_length s.moved (now - s.down.per); have := HS.u.mlen; omega
   have hMem2 := J (fun m hm => (HS.u.mov m (G.behindL_mem (l := s.moved) (at0 := now - s.down.per) m hm)).1)
   obtain ⟨M, hM⟩ : ∃ M, G.behindL s.moved (now - s.down.per) = M := ⟨_, rfl⟩
   rw [hM] at HL2 hLen2 hMem2 ⊢
   have HMe := J hM
   clear hl2 d3 d10 e1 hM
   go_wp2_with fail
   go_loopw [11, 55] (fun x3 i wr => ∃ k : Nat, k ≤ M.length ∧ i = .int .i64 k ∧ x3 = .int .i64 (G.sumDown (M.take k) have0) ∧ Below w2.heap.size w2 wr) (fun _ i _ => M.length - (intOf i).toNat)
   case atStart => exact ⟨0, by omega, rfl, rfl, (Below.refl _ _).drew⟩
   obtain ⟨k, hk, rfl, rfl, hb⟩ := hrel
   by_cases hlt : k < M.length
   ·obtain ⟨m, hm⟩ := G.get_some M hlt
    obtain ⟨b, off, cap', e, d0, d1⟩ := mark_at (w := w2.drew) HL2.u (wr := wr) ⟨hb.os, hb.tape, hb.output, hb.size, hb.block⟩ hm
    cases e
    have i0 : (0 : Int) ≤ (k : Int) := by omega
    have i1 : (k : Int) < (M.length : Int) := by omega
    have hmb := hMem2.u m (List.mem_of_getElem? hm)
    have hsb := G.sumDown_bd (M.take k) have0 (fun m hm => hMem2.u m (List.mem_of_mem_take hm))
    have hkl : ((M.take k).length : Int) ≤ 100000 := by rw [List.length_take]; omega
    have HF := J (G.fold_snoc (f := fun (a : Int) (m : G.Mark) => a + max (-m.2) 0) (x := have0) hm)
    change Hid (G.sumDown (M.take (k + 1)) have0 = G.sumDown (M.take k) have0 + max (-m.2) 0) at HF
    generalize G.sumDown (M.take k) have0 = t at HF hsb ⊢
    have t0 : 0 ≤ t := by omega
    have t1 : t ≤ 5000050 := by omega
    obtain ⟨m0, m1⟩ := hmb
    have HB := J (hb.alloc hb.size (.cells #[.int .i64 m.1, .int .i64 m.2] 200))
    clear hb hm hsb hkl
    by_cases hc : -m.2 < 0
    ·go_wp2_with fail
     go_roundw
     case rel => exact ⟨k + 1, by omega, by go_num, by rw [HF.u, show t + max (-m.2) 0 = t by omega], HB.u⟩
     case measure => simp [intOf]; omega
    have hc' : 0 ≤ -m.2 := by omega
    go_wp2_with fail
    go_roundw
    case rel => exact ⟨k + 1, by omega, by go_num, by rw [HF.u, show t + max (-m.2) 0 = t + -m.2 by omega], HB.u⟩
    case measure => simp [intOf]; omega
   have hke : k = M.length := by omega
   subst hke
   rw [List.take_length]
   have hsb := G.sumDown_bd M have0 hMem2.u
   have HBu := J (show G.baseDown s now have0 = G.sumDown M have0 by unfold G.baseDown; rw [HMe.u])
   generalize G.sumDown M have0 = B at HBu hsb ⊢
   have t0 : 0 ≤ B := by omega
   have t1 : B ≤ 5000050 := by omega
   have HB3 := J (HB2.u.trans (hb.mono HB2.u.size))
   have h4 := H3.u.below hb
   have d1 := h4.head.here (i := 5) rfl
   have d2 := h4.head.here (i := 6) rfl
   obtain ⟨z0, z1⟩ := G.sharec_bd B (10 * s.down.pct)
   have HFn := J (show ∀ x, x = min (max a (B - max s.down.pods (G.sharec B (10 * s.down.pct)))) have0 → ∀ w', wr = w' ∨ wr.drew = w' → LongPost w (G.fewerN s now have0 want) (.returned (.int .i64 x)) w' from fun x hx w' hw' => ⟨by rw [HM1.u, HLM.u, HBu.u, hx]; rfl, by rcases hw' with rfl | rfl; exact HB3.u; exact HB3.u.drew⟩)
   clear hb h4 hsb HM1 HBu
   have hmul : IntKind.i64.wrap (10 * s.down.pct) = 10 * s.down.pct := IntWalk.i64_in _ (by omega)
   by_cases hp : s.down.pods < G.sharec B (10 * s.down.pct)
   ·have hw1 : IntKind.i64.wrap (B - G.sharec B (10 * s.down.pct)) = B - G.sharec B (10 * s.down.pct) := IntWalk.i64_in _ (by omega)
    by_cases hq : a < B - G.sharec B (10 * s.down.pct)
    ·go_wp2_with fail
     go_region_held3 (fun w' => w'.cell? ⟨g, 5, none⟩ = some (.int .i64 s.down.pods) ∧ w'.cell? ⟨g, 6, none⟩ = some (.int .i64 s.down.pct)) (go_keep) (first | (go_at_call 163; refine (numShare _ _ _).mono ?_; rintro e w' ⟨rfl, rfl⟩))
     all_goals
      clear hmul hw1
      go_wp2_with fail
      all_goals
       go_ret
       exact HFn.u _ (by omega) _ (.inr rfl)
    have hq' : B - G.sharec B (10 * s.down.pct) ≤ a := by omega
    go_wp2_with fail
    go_region_held3 (fun w' => w'.cell? ⟨g, 5, none⟩ = some (.int .i64 s.down.pods) ∧ w'.cell? ⟨g, 6, none⟩ = some (.int .i64 s.down.pct)) (go_keep) (first | (go_at_call 163; refine (numShare _ _ _).mono ?_; rintro e w' ⟨rfl, rfl⟩))
    all_goals
     clear hmul hw1
     go_wp2_with fail
     all_goals
      go_ret
      exact HFn.u _ (by omega) _ (.inr rfl)
   have hp' : G.sharec B (10 * s.down.pct) ≤ s.down.pods := by omega
   have hw1 : IntKind.i64.wrap (B - s.down.pods) = B - s.down.pods := IntWalk.i64_in _ (by omega)
   by_cases hq : a < B - s.down.pods
   ·go_wp2_with fail
    go_region_held3 (fun w' => w'.cell? ⟨g, 5, none⟩ = some (.int .i64 s.down.pods) ∧ w'.cell? ⟨g, 6, none⟩ = some (.int .i64 s.down.pct)) (go_keep) (first | (go_at_call 163; refine (numShare _ _ _).mono ?_; rintro e w' ⟨rfl, rfl⟩))
    all_goals
     clear hmul hw1
     go_wp2_with fail
     all_goals
      go_ret
      exact HFn.u _ (by omega) _ (.inr rfl)
   have hq' : B - s.down.pods ≤ a := by omega
   go_wp2_with fail
   go_region_held3 (fun w' => w'.cell? ⟨g, 5, none⟩ = some (.int .i64 s.down.pods) ∧ w'.cell? ⟨g, 6, none⟩ = some (.int .i64 s.down.pct)) (go_keep) (first | (go_at_call 163; refine (numShare _ _ _).mono ?_; rintro e w' ⟨rfl, rfl⟩))
   all_goals
    clear hmul hw1
    go_wp2_with fail
    all_goals
     go_ret
     exact HFn.u _ (by omega) _ (.inr rfl)
end Go.Proofs.YtidonhndeohdlaaGreat
namespace G
open Go Go.ChangeShapes Go.WideShapes Go.ChangeAt Go.RowKit
section
variable {H : Type} {enc : TypeId × Value → H} {P : Program}
theorem trodAll_stays (hl : laidOutB P = true) {W W' : World} (hb : Below W.heap.size W W') (sp : Nat → Bool) : ∀ {ts : List TypeId} {vs : List Value} {ds : List (DataW H)} {ps : List MemPlace},
  (∀ t ∈ ts, P.readableRec t = true ∧ t < P.types.size) → DataW.TrodAll enc P W 0 (fun _ => true) true ts vs ds ps → (∀ x ∈ ps, x.block < W.heap.size) → (∀ x ∈ ps, sp x.block = true) →
  DataW.TrodAll enc P W' 0 sp true ts vs ds ps
 | [], vs, ds, ps, _, h, _, _ => by
  obtain ⟨rfl, rfl, rfl⟩ := trodAll_nil h
  exact trodAll_mk0
 | t :: ts, vs, ds, ps, ht, h, hlt, hs => by
  obtain ⟨v, vs', d, ds', p, p', rfl, rfl, rfl, h0, hr⟩ := trodAll_cons h
  have h1 := ht t (by simp)
  refine trodAll_cons_mk ?_ (trodAll_stays hl hb sp (fun t' h' => ht t' (by simp [h'])) hr (fun x hx => hlt x (by simp [hx])) (fun x hx => hs x (by simp [hx])))
  exact WideElems.Trod_stays hl h1.1 h1.2 h0 (fun x hx => hb.same (hlt x (by simp [hx]))) (fun x hx => hs x (by simp [hx]))
theorem law_post {f : Func} {s : ChangeSpec} {apart fresh handsOn again : Bool} {W W' : World} {args : Array Value} {v : Value} {ds : List (DataW H)} {ps : List MemPlace}
  (hvars : s.vars = []) (hl : laidOutB P = true) (hts : ∀ t ∈ f.params.toList, P.readableRec t = true ∧ t < P.types.size)
  (hW : DataW.Whole enc P f.params.toList s.vars apart W args.toList ds [] ps) (hA : DataW.TrodAll enc P W 0 (fun _ => true) true f.params.toList args.toList ds ps)
  (hres : ∀ (b : Nat) (sp : Nat → Bool) (hd : Bool), DataW.TrodAll enc P W' b sp hd f.resultTypes.toList (v.resultList f.resultTypes.size) (s.fn H ds).results [])
  (hds : (s.fn H ds).args = ds) (hgs : (s.fn H ds).vars = []) (hb : Below W.heap.size W W')
  (hok : ∀ (j : Nat) (t : TypeId) (r : Value), f.resultTypes[j]? = some t → (v.resultList f.resultTypes.size)[j]? = some r → Value.okWide P W' .any 0 t r) :
  s.post enc P f apart fresh handsOn again W args v W' := by
 have hlt : ∀ p ∈ ps, p.block < W.heap.size := fun p hp => hW.lt p hp
 have hold : ∀ p ∈ ps, (fun b => decide (b < W.heap.size)) p.block = true := fun p hp => by simpa using hlt p hp
 have hargs : ∀ sp : Nat → Bool, (∀ p ∈ ps, sp p.block = true) → DataW.TrodAll enc P W' 0 sp true f.params.toList args.toList (s.fn H (ds ++ [])).args ps := fun sp h => by
  rw [List.append_nil, hds]
  exact trodAll_stays hl hb sp hts hA hlt h
 have hv : ∀ sp : Nat → Bool, DataW.TrodVars enc P W' sp s.vars (s.fn H (ds ++ [])).vars [] := fun sp => by
  rw [List.append_nil, hvars, hgs]; rfl
 have hres' : ∀ (b : Nat) (sp : Nat → Bool) (hd : Bool), DataW.TrodAll enc P W' b sp hd f.resultTypes.toList (v.resultList f.resultTypes.size) (s.fn H (ds ++ [])).results [] := fun b sp hd => by
  rw [List.append_nil]; exact hres b sp hd
 refine ⟨ds, [], ps, [], ps, [], hW, hres' _ _ _, hargs _ hold, hv _, World.keptBut_mono (fun p hp => ⟨hp, ?_⟩) (hb.frame (· ∈ ps)), fun _ => ?_⟩
 ·exact Or.inr (by simpa using hp)
 obtain ⟨_, _, _, _, _, hz, hn⟩ := hW
 refine ⟨hok, _, _, ([] ++ ps) ++ [], ⟨[] ++ ps, [], trodAll_append (hargs _ (fun _ _ => rfl)) (hres' _ _ _), hv _, rfl, ?_, ?_⟩, ?_⟩
 ·intro b off hp
  have hin : MemPlace.cell b off ∈ ps := by simpa using hp
  rw [hb.frozen (hlt _ hin)]
  exact hz b off hin
 ·intro ha
  simpa using hn ha
 intro p hp _
 simpa using hp
end
end G
namespace Go.Proofs.YtidonhndeohdlaaGreat
open Go.ChangeShapes Go.WideShapes Go.ChangeAt Go.RowKit Go.Deep
def RowsAt (w : World) (k : Nat) (A : Option Addr) (l : List (List Int)) : Prop :=
 0 < l.length → ∃ b off, A = some ⟨b, off, none⟩ ∧ b < w.heap.size ∧ ∀ i row j x, l[i]? = some row → row[j]? = some x → w.cell? ⟨b, off + i * k + j, none⟩ = some (.int .i64 x)
def ArgRows (w : World) (k : Nat) (v : Value) (l : List (List Int)) : Prop :=
 ∃ A cap, v = .slice A l.length cap ∧ l.length ≤ cap ∧ cap ≤ maxLen ∧ (∀ row ∈ l, row.length = k ∧ ∀ x ∈ row, -9223372036854775808 ≤ x ∧ x ≤ 9223372036854775807) ∧ RowsAt w k A l
theorem rows_cells_int : Tryz.prog.cellsOf 3 = 1 := by kernel_rfl
section
variable {H : Type} {enc : TypeId × Value → H} {w : World} {base : Nat} {spare : Nat → Bool} {held : Bool}
theorem cell_spot {w : World} {a : Addr} {v : Value} (h : w.cell? a = some v) : a.spot = none := by
 unfold World.cell? at h
 split at h
 ·cases hs : a.spot with
  | none => rfl
  | some s => simp [hs] at h
 simp at h
theorem open_rows' {t e : TypeId} {k : Nat} {v : Value} {d : DataW H} {p : List MemPlace} (ht : Tryz.prog.underlying t = some (.slice e)) (hC : Tryz.prog.cellsOf e = k) (hk : 0 < k)
  (helem : ∀ (n : Nat) (cs : List Value) (y : DataW H × List MemPlace), DataW.trod enc Tryz.prog w base spare held n e cs = some y → ∃ row : List Int, row.length = k ∧ cs = row.map (Value.int .i64) ∧ ∀ x ∈ row, -9223372036854775808 ≤ x ∧ x ≤ 9223372036854775807)
  (h1 : ∃ a len cap, v = .slice a len cap) (h : DataW.Trod enc Tryz.prog w base spare held t v d p) : ∃ l, ArgRows w k v l := by
 obtain ⟨a0, len0, cap0, e1⟩ := h1
 subst e1
 obtain ⟨fuel, hf⟩ := h
 rcases open_slice ht hf with ⟨hcs, hx⟩ | ⟨a, len, cap, m, n, D, Pl, hcs, hb, hl, hm, hmm, hx, hi⟩
 ·simp [Value.cells] at hcs
  obtain ⟨rfl, rfl, rfl⟩ := hcs
  exact ⟨[], none, 0, rfl, Nat.le_refl 0, Nat.zero_le maxLen, fun row hr => absurd hr (by simp), fun h0 => absurd h0 (by simp)⟩
 simp [Value.cells] at hcs
 obtain ⟨rfl, rfl, rfl⟩ := hcs
 have hlm : len0 ≤ m := by rw [hmm]; split <;> omega
 have hrow : ∀ i, i < len0 → ∃ row : List Int, row.length = k ∧ (∀ x ∈ row, -9223372036854775808 ≤ x ∧ x ≤ 9223372036854775807) ∧ ∀ j x, row[j]? = some x → w.cell? (a.add (i * k + j)) = some (.int .i64 x) := by
  intro i hlt
  obtain ⟨cs', hc, ht'⟩ := hi i (by omega)
  rw [hC] at hc
  obtain ⟨row, hr, rfl, hbd⟩ := helem n cs' _ ht'
  obtain ⟨_, hcl, hat⟩ := World.cells?_some hc
  refine ⟨row, hr, hbd, fun j x hj => ?_⟩
  have hjl : j < k := by
   rw [← hr]
   rcases Nat.lt_or_ge j row.length with hl' | hl'
   ·exact hl'
   rw [List.getElem?_eq_none hl'] at hj; cases hj
  rw [← Go.Deep.add_add, hat j hjl]
  simp [hj]
 obtain ⟨f, hf'⟩ : ∃ f : Nat → List Int, ∀ i, i < len0 → (f i).length = k ∧ (∀ x ∈ f i, -9223372036854775808 ≤ x ∧ x ≤ 9223372036854775807) ∧ ∀ j x, (f i)[j]? = some x → w.cell? (a.add (i * k + j)) = some (.int .i64 x) := by
  refine ⟨fun i => if h : i < len0 then Classical.choose (hrow i h) else [], fun i hlt => ?_⟩
  simp only [dif_pos hlt]
  exact Classical.choose_spec (hrow i hlt)
 refine ⟨(List.range len0).map f, some a, cap0, by simp, by simpa using hl, hm, ?_, ?_⟩
 ·intro row hmem
  simp only [List.mem_map, List.mem_range] at hmem
  obtain ⟨i, hlt, rfl⟩ := hmem
  exact ⟨(hf' i hlt).1, (hf' i hlt).2.1⟩
 intro h0
 simp at h0
 have hc0 : w.cell? (a.add (0 * k + 0)) = some (.int .i64 ((f 0)[0]'(by rw [(hf' 0 h0).1]; exact hk))) := (hf' 0 h0).2.2 0 _ (List.getElem?_eq_getElem _)
 have hs : a.spot = none := by
  have := cell_spot hc0
  simpa [Addr.add] using this
 obtain ⟨b, off, sp⟩ := a
 simp only at hs
 subst hs
 refine ⟨b, off, rfl, ?_, ?_⟩
 ·have := World.block_lt_of_cell? w _ hc0
  simpa [Addr.add] using this
 intro i row j x h1 h2
 simp only [List.getElem?_map] at h1
 have hlt : i < len0 := by
  rcases Nat.lt_or_ge i len0 with hl' | hl'
  ·exact hl'
  rw [List.getElem?_eq_none (by simpa using hl')] at h1; simp at h1
 rw [List.getElem?_range hlt] at h1
 simp at h1
 subst h1
 have := (hf' i hlt).2.2 j x h2
 rw [← this, ← Go.Deep.add_add]
 unfold Addr.add
 congr 1
 by_cases h3 : i * k = 0 <;> by_cases h4 : j = 0 <;> simp [h3, h4, Nat.add_assoc]
theorem open_rows {r : Reach} {b0 : Nat} {t e : TypeId} {k : Nat} {v : Value} {d : DataW H} {p : List MemPlace} (ht : Tryz.prog.underlying t = some (.slice e)) (hC : Tryz.prog.cellsOf e = k) (hk : 0 < k)
  (helem : ∀ (n : Nat) (cs : List Value) (y : DataW H × List MemPlace), DataW.trod enc Tryz.prog w base spare held n e cs = some y → ∃ row : List Int, row.length = k ∧ cs = row.map (Value.int .i64) ∧ ∀ x ∈ row, -9223372036854775808 ≤ x ∧ x ≤ 9223372036854775807)
  (hv : Value.okWide Tryz.prog w r b0 t v) (h : DataW.Trod enc Tryz.prog w base spare held t v d p) : ∃ l, ArgRows w k v l :=
 open_rows' ht hC hk helem (okWide_slice (P := Tryz.prog) ht hv) h
theorem struct_ints {e : TypeId} {fs : Array Field} {k : Nat} (hu : Tryz.prog.underlying e = some (.struct fs)) (hone : oneCellFields Tryz.prog fs = true) (hints : ∀ (i : Nat) (f : Field), fs[i]? = some f → f.type = 3) (hC : Tryz.prog.cellsOf e = k) (hfs : fs.size = k) :
  ∀ (n : Nat) (cs : List Value) (y : DataW H × List MemPlace), DataW.trod enc Tryz.prog w base spare held n e cs = some y → ∃ row : List Int, row.length = k ∧ cs = row.map (Value.int .i64) ∧ ∀ x ∈ row, -9223372036854775808 ≤ x ∧ x ≤ 9223372036854775807 := by
 intro n cs y h
 obtain ⟨xs, n', _, hx, hlen, hxl, hg⟩ := DataW.trod_struct hu h
 have hcell : ∀ i, i < k → ∃ x : Int, cs[i]? = some (.int .i64 x) ∧ -9223372036854775808 ≤ x ∧ x ≤ 9223372036854775807 := by
  intro i hi
  have hf : fs[i]? = some (fs[i]'(by omega)) := Array.getElem?_eq_getElem _
  obtain ⟨ho, hk1⟩ := hone_of hone i _ hf
  have h1 := hg i _ hf
  rw [ho, hk1, hints i _ hf] at h1
  have hv : cs[i]? = some (cs[i]'(by omega)) := List.getElem?_eq_getElem (by omega)
  have hone' : (cs.drop i).take 1 = [cs[i]'(by omega)] := by
   rw [List.drop_eq_getElem_cons (by omega)]; rfl
  rw [hone'] at h1
  have hys : xs[i]? = some (xs[i]'(by omega)) := List.getElem?_eq_getElem (by omega)
  obtain ⟨x, hc, _, wf⟩ := DataW.trod_int Tryz.underlying3 (h1.trans hys)
  have hc' : cs[i]'(by omega) = .int .i64 x := by simpa using hc
  exact ⟨x, by rw [hv, hc'], bounds_i64 wf⟩
 refine ⟨(List.range k).map fun i => if h : i < k then Classical.choose (hcell i h) else 0, by simp, ?_, ?_⟩
 ·apply List.ext_getElem?
  intro i
  rcases Nat.lt_or_ge i k with hi | hi
  ·have := (Classical.choose_spec (hcell i hi)).1
   rw [this]
   simp [hi]
  rw [List.getElem?_eq_none (by omega), List.getElem?_eq_none (by simpa using hi)]
 intro x hx'
 simp only [List.mem_map, List.mem_range] at hx'
 obtain ⟨i, hi, rfl⟩ := hx'
 simp only [dif_pos hi]
 exact (Classical.choose_spec (hcell i hi)).2
end
end Go.Proofs.YtidonhndeohdlaaGreat
