/- Parts of this claim: WldR, TwoP, TwoG, Eqs, IntE, GloS, TpP, GloW. -/
import Derived.Test.YtidonhndeohdlaaGreatWlWldF
import Derived.Test.YtidonhndeohdlaaGreatWl41
set_option linter.unusedVariables false
set_option linter.unusedSimpArgs false
set_option maxRecDepth 100000
set_option maxHeartbeats 12800000
namespace Go.Proofs.YtidonhndeohdlaaGreat
open Go.RowKit
section
variable {R : Nat → Prop} {p : Wp} {m : Wo} {w : World}
theorem woNow (h : WoN R w p m) : Calls Tryz.prog 46 #[.pointer (some ⟨p.g, 0, none⟩)] w fun e w' => e = .returned (.int .i64 m.now) ∧ w = w' := by
 have x8 := h.at.here (i := 8) rfl
 clear h
 go_enter Tryz.func46, Tryz.ntmps46
 go_wp2_with fail
 go_ret
 exact ⟨rfl, rfl⟩
theorem woTarget (h : WoN R w p m) : Calls Tryz.prog 47 #[.pointer (some ⟨p.g, 0, none⟩)] w fun e w' => e = .returned (.int .i64 m.target) ∧ w = w' := by
 have x9 := h.at.here (i := 9) rfl
 clear h
 go_enter Tryz.func47, Tryz.ntmps47
 go_wp2_with fail
 go_ret
 exact ⟨rfl, rfl⟩
theorem woPodsOf (h : WoN R w p m) : Calls Tryz.prog 49 #[.pointer (some ⟨p.g, 0, none⟩)] w (FleAllPost w m.f) := by
 have x3 := h.at.here (i := 3) rfl
 have HH := J h
 clear h
 go_enter Tryz.func49, Tryz.ntmps49
 go_wp2_with fail
 refine (woPods _ HH.u).mono ?_
 rintro e w2 ⟨v, rfl, ho, hb⟩
 obtain ⟨A, cap, rfl, _, _, _⟩ := ho.slice
 have HO := J ho; have HB := J hb
 clear ho hb x3
 go_wp2_with fail
 go_ret
 exact ⟨_, rfl, HO.u, HB.u⟩
theorem woReqsOf (h : WoN R w p m) : Calls Tryz.prog 51 #[.pointer (some ⟨p.g, 0, none⟩)] w (BufAllPost w m.b) := by
 have x4 := h.at.here (i := 4) rfl
 have HH := J h
 clear h
 go_enter Tryz.func51, Tryz.ntmps51
 go_wp2_with fail
 refine (woReqs _ HH.u).mono ?_
 rintro e w2 ⟨v, rfl, ho, hb⟩
 obtain ⟨A, cap, rfl, _, _, _⟩ := ho.slice
 have HO := J ho; have HB := J hb
 clear ho hb x4
 go_wp2_with fail
 go_ret
 exact ⟨_, rfl, HO.u, HB.u⟩
theorem woLagsOf (h : WoN R w p m) (hs : Small m.t) : Calls Tryz.prog 53 #[.pointer (some ⟨p.g, 0, none⟩)] w (LagsPost w (lagsOf m.t)) := by
 have x1 := h.at.here (i := 1) rfl
 have HH := J h; have HS := J hs
 clear h hs
 go_enter Tryz.func53, Tryz.ntmps53
 go_wp2_with fail
 refine (woLags _ HH.u HS.u).mono ?_
 rintro e w2 ⟨v, rfl, ho, hb⟩
 obtain ⟨A, cap, rfl, _, _, _⟩ := (G.OwnRow.of_owns (S := fun _ => True) ho (fun _ _ => trivial)).slice
 have HO := J ho; have HB := J hb
 clear ho hb x1
 go_wp2_with fail
 go_ret
 exact ⟨_, rfl, HO.u, HB.u⟩
def MsgsPost (R : Nat → Prop) (w : World) (p : Wp) (m : Wo) (e : Ending) (w' : World) : Prop :=
 ∃ v', e = .returned v' ∧ G.OwnRow (fun b => w.heap.size ≤ b) w' 111 3 v' (G.allLst m.q m.now).length ((G.allLst m.q m.now).flatMap G.Msg.enc) ∧ WoN (fun b => R b ∨ (w.heap.size ≤ b ∧ b < w'.heap.size)) w' p { m with q := G.nowLst m.q m.now } ∧ G.Chg (fun b => ¬ R b) w w'
theorem woMsgsOf (h : WoN R w p m) : Calls Tryz.prog 56 #[.pointer (some ⟨p.g, 0, none⟩)] w (MsgsPost R w p m) := by
 have x2 := h.at.here (i := 2) rfl
 have x8 := h.at.here (i := 8) rfl
 have HH := J h
 clear h
 go_enter Tryz.func56, Tryz.ntmps56
 go_wp2_with fail
 go_region_held3 (fun w' => w'.cell? ⟨p.g, 2, none⟩ = some (.pointer (some ⟨p.gq, 0, none⟩)) ∧ w'.cell? ⟨p.g, 8, none⟩ = some (.int .i64 m.now)) (first | exact ⟨y2, y8⟩ | go_keep) ((go_at_call 95; refine (woMsgs m.now _ HH.u.drew).mono ?_; rintro e w2 ⟨⟨v, rfl, ho⟩, hn, hc⟩; obtain ⟨A, cap, rfl, _, _, _⟩ := ho.slice; have HO := J ho; have HN := J hn; have HC := J hc; have y2 := hn.at.here (i := 2) rfl; have y8 := hn.at.here (i := 8) rfl))
 all_goals
  clear ho hn hc y2 y8
  go_wp2_with fail
  go_ret
  exact ⟨_, rfl, HO.u, HN.u, (G.Chg.refl _ _).drew.trans HC.u⟩
end
open Go.RowKit
section
variable {R : Nat → Prop} {w w' : World} {p p2 : Wp} {m m2 : Wo} {C : Nat → Prop}
theorem WoIn.turn {a : Wg} (h : WoIn w p a m) (hc : G.Chg C w w') (hC : ∀ b, C b → a.P b = 0) : WoIn w' p { a with P := paint a.P 0 w w' } m := by
 have hn : ∀ k, k ≠ 0 → ∀ b, a.P b = k → ¬ C b := fun k hk b hb hcb => by have := hC b hcb; omega
 obtain ⟨k1, k2, k3, k4⟩ := h.keep1 0 hc (hn 1 (by omega))
 obtain ⟨k5, k6⟩ := h.keep4a 0 w'
 exact ⟨k1, k2, k3, h.keep2 0 hc (hn 2 (by omega)) (hn 3 (by omega)), h.keep4 0 hc (hn 4 (by omega)), k5, k6, h.keep5 0 hc (hn 5 (by omega)), h.keep6 0 hc (hn 6 (by omega)), h.keep7 0 hc (hn 7 (by omega)), k4, fun b hb => paint_lim h.lim hc.size hb⟩
theorem paint_zero {P : Nat → Nat} (hl : ∀ b, P b ≠ 0 → b < w.heap.size) (b : Nat) : paint P 0 w w' b = P b ∧ (w.heap.size ≤ b → paint P 0 w w' b = 0) := by
 have h0 : w.heap.size ≤ b → P b = 0 := fun h => by
  rcases Nat.eq_zero_or_pos (P b) with c | c
  ·exact c
  have := hl b (by omega); omega
 unfold paint
 split
 ·rename_i c; exact ⟨(h0 c.1).symm, fun _ => rfl⟩
 exact ⟨rfl, h0⟩
end
open Go.RowKit
def TwoG (RT R : Nat → Prop) (w : World) (p : Wp) (m : Wo) (p2 : Wp) (m2 : Wo) : Prop := ∃ a a2, WoIn w p a m ∧ GloIn RT w p2 a2 m2 ∧ (∀ b, a.P b = 0 ∨ a2.P b = 0) ∧ (∀ b, R b → a.P b = 0 ∧ a2.P b = 0 ∧ b < w.heap.size) ∧ ∀ b, RT b → R b
section
variable {RT R : Nat → Prop} {w w' : World} {p p2 : Wp} {m m2 : Wo} {C : Nat → Prop}
theorem TwoG.left (h : TwoG RT R w p m p2 m2) : ∃ R' : Nat → Prop, WoN R' w p m ∧ (∀ b, R b → R' b) ∧ ∀ (w' : World) (m' : Wo), WoC R' w w' p m' → TwoG RT R w' p m' p2 m2 ∧ G.Chg (fun b => ¬ R b) w w' := by
 obtain ⟨a, a2, h1, h2, h3, h4, h6⟩ := h
 refine ⟨fun b => R b ∨ a2.P b ≠ 0, ⟨a, h1, fun b hb => ?_⟩, fun b hb => .inl hb, fun w' m' hc => ?_⟩
 ·rcases hb with hb | hb
  ·exact ⟨(h4 b hb).1, (h4 b hb).2.2⟩
  exact ⟨(h3 b).resolve_right hb, h2.lim b hb⟩
 obtain ⟨⟨a', h1', h5⟩, hch⟩ := hc
 refine ⟨⟨a', { a2 with P := paint a2.P 0 w w' }, h1', h2.turn 0 hch (fun b hb => ?_) (fun b hb hC => hC (.inl (h6 b hb))), fun b => ?_, fun b hb => ?_, h6⟩, hch.mono fun b _ hb hR => hb (.inl hR)⟩
 ·rcases Nat.eq_zero_or_pos (a2.P b) with c | c
  ·exact c
  exact absurd (.inr (by omega)) hb
 ·show a'.P b = 0 ∨ paint a2.P 0 w w' b = 0
  rw [(paint_zero h2.lim b).1]
  rcases Nat.eq_zero_or_pos (a2.P b) with c | c
  ·exact .inr c
  exact .inl (h5 b (.inr (by omega))).1
 refine ⟨(h5 b (.inl hb)).1, ?_, (h5 b (.inl hb)).2⟩
 show paint a2.P 0 w w' b = 0
 rw [(paint_zero h2.lim b).1]; exact (h4 b hb).2.1
theorem TwoG.leftN (h : TwoG RT R w p m p2 m2) : ∃ R' : Nat → Prop, WoN R' w p m ∧ (∀ b, R b → R' b) ∧ (R' p2.g ∧ R' p2.gf ∧ R' p2.gb) ∧ ∀ (w' : World) (m' : Wo), WoN (fun b => R' b ∨ (w.heap.size ≤ b ∧ b < w'.heap.size)) w' p m' → G.Chg (fun b => ¬ R' b) w w' → TwoG RT (fun b => R b ∨ (w.heap.size ≤ b ∧ b < w'.heap.size)) w' p m' p2 m2 ∧ G.Chg (fun b => ¬ R b) w w' := by
 obtain ⟨a, a2, h1, h2, h3, h4, h6⟩ := h
 refine ⟨fun b => R b ∨ a2.P b ≠ 0, ⟨a, h1, fun b hb => ?_⟩, fun b hb => .inl hb, ⟨.inr (by have := h2.own; omega), .inr (by have : a2.P p2.gf = 6 := h2.fl.own; omega), .inr (by have : a2.P p2.gb = 7 := h2.bu.own; omega)⟩, fun w' m' hn hch => ?_⟩
 ·rcases hb with hb | hb
  ·exact ⟨(h4 b hb).1, (h4 b hb).2.2⟩
  exact ⟨(h3 b).resolve_right hb, h2.lim b hb⟩
 obtain ⟨a', h1', h5⟩ := hn
 refine ⟨⟨a', { a2 with P := paint a2.P 0 w w' }, h1', h2.turn 0 hch (fun b hb => ?_) (fun b hb hC => hC (.inl (h6 b hb))), fun b => ?_, fun b hb => ?_, fun b hb => .inl (h6 b hb)⟩, hch.mono fun b _ hb hR => hb (.inl hR)⟩
 ·rcases Nat.eq_zero_or_pos (a2.P b) with c | c
  ·exact c
  exact absurd (.inr (by omega)) hb
 ·show a'.P b = 0 ∨ paint a2.P 0 w w' b = 0
  rw [(paint_zero h2.lim b).1]
  rcases Nat.eq_zero_or_pos (a2.P b) with c | c
  ·exact .inr c
  exact .inl (h5 b (.inl (.inr (by omega)))).1
 show a'.P b = 0 ∧ paint a2.P 0 w w' b = 0 ∧ _
 rcases hb with hb | hb
 ·refine ⟨(h5 b (.inl (.inl hb))).1, ?_, (h5 b (.inl (.inl hb))).2⟩
  rw [(paint_zero h2.lim b).1]; exact (h4 b hb).2.1
 exact ⟨(h5 b (.inr hb)).1, (paint_zero h2.lim b).2 hb.1, hb.2⟩
theorem TwoG.right (h : TwoG RT R w p m p2 m2) : ∃ R' : Nat → Prop, GloN RT R' w p2 m2 ∧ (∀ b, R b → R' b) ∧ ∀ (w' : World) (m' : Wo), GloK RT R' w w' p2 m' → TwoG RT R w' p m p2 m' ∧ G.Chg (fun b => ¬ R b) w w' := by
 obtain ⟨a, a2, h1, h2, h3, h4, h6⟩ := h
 refine ⟨fun b => R b ∨ a.P b ≠ 0, ⟨a2, h2, fun b hb => ?_⟩, fun b hb => .inl hb, fun w' m' hc => ?_⟩
 ·rcases hb with hb | hb
  ·exact ⟨(h4 b hb).2.1, (h4 b hb).2.2⟩
  exact ⟨(h3 b).resolve_left hb, h1.lim b hb⟩
 obtain ⟨⟨a', h1', h5⟩, hch⟩ := hc
 refine ⟨⟨{ a with P := paint a.P 0 w w' }, a', h1.turn hch (fun b hb => ?_), h1', fun b => ?_, fun b hb => ?_, h6⟩, hch.mono fun b _ hb hR => hb (.inl hR)⟩
 ·rcases Nat.eq_zero_or_pos (a.P b) with c | c
  ·exact c
  exact absurd (.inr (by omega)) hb
 ·show paint a.P 0 w w' b = 0 ∨ a'.P b = 0
  rw [(paint_zero h1.lim b).1]
  rcases Nat.eq_zero_or_pos (a.P b) with c | c
  ·exact .inl c
  exact .inr (h5 b (.inr (by omega))).1
 refine ⟨?_, (h5 b (.inl hb)).1, (h5 b (.inl hb)).2⟩
 show paint a.P 0 w w' b = 0
 rw [(paint_zero h1.lim b).1]; exact (h4 b hb).1
theorem TwoG.rightN (h : TwoG RT R w p m p2 m2) : ∃ R' : Nat → Prop, GloN RT R' w p2 m2 ∧ (∀ b, R b → R' b) ∧ ∀ (w' : World) (m' : Wo), GloN RT (fun b => R' b ∨ (w.heap.size ≤ b ∧ b < w'.heap.size)) w' p2 m' → G.Chg (fun b => ¬ R' b) w w' → TwoG RT (fun b => R b ∨ (w.heap.size ≤ b ∧ b < w'.heap.size)) w' p m p2 m' ∧ G.Chg (fun b => ¬ R b) w w' := by
 obtain ⟨a, a2, h1, h2, h3, h4, h6⟩ := h
 refine ⟨fun b => R b ∨ a.P b ≠ 0, ⟨a2, h2, fun b hb => ?_⟩, fun b hb => .inl hb, fun w' m' hn hch => ?_⟩
 ·rcases hb with hb | hb
  ·exact ⟨(h4 b hb).2.1, (h4 b hb).2.2⟩
  exact ⟨(h3 b).resolve_left hb, h1.lim b hb⟩
 obtain ⟨a', h1', h5⟩ := hn
 refine ⟨⟨{ a with P := paint a.P 0 w w' }, a', h1.turn hch (fun b hb => ?_), h1', fun b => ?_, fun b hb => ?_, fun b hb => .inl (h6 b hb)⟩, hch.mono fun b _ hb hR => hb (.inl hR)⟩
 ·rcases Nat.eq_zero_or_pos (a.P b) with c | c
  ·exact c
  exact absurd (.inr (by omega)) hb
 ·show paint a.P 0 w w' b = 0 ∨ a'.P b = 0
  rw [(paint_zero h1.lim b).1]
  rcases Nat.eq_zero_or_pos (a.P b) with c | c
  ·exact .inl c
  exact .inr (h5 b (.inl (.inr (by omega)))).1
 show paint a.P 0 w w' b = 0 ∧ a'.P b = 0 ∧ _
 rcases hb with hb | hb
 ·refine ⟨?_, (h5 b (.inl (.inl hb))).1, (h5 b (.inl (.inl hb))).2⟩
  rw [(paint_zero h1.lim b).1]; exact (h4 b hb).1
 exact ⟨(paint_zero h1.lim b).2 hb.1, (h5 b (.inr hb)).1, hb.2⟩
theorem TwoG.grow (h : TwoG RT R w p m p2 m2) (hc : G.Chg (fun _ => False) w w') : TwoG RT (fun b => R b ∨ (w.heap.size ≤ b ∧ b < w'.heap.size)) w' p m p2 m2 := by
 obtain ⟨a, a2, h1, h2, h3, h4, h6⟩ := h
 have hz := hc.size
 refine ⟨_, _, h1.turn hc (fun _ h => h.elim), h2.turn 0 hc (fun _ h => h.elim) (fun _ _ h => h), fun b => ?_, fun b hb => ?_, fun b hb => .inl (h6 b hb)⟩
 ·show paint a.P 0 w w' b = 0 ∨ paint a2.P 0 w w' b = 0
  rw [(paint_zero h1.lim b).1, (paint_zero h2.lim b).1]; exact h3 b
 show paint a.P 0 w w' b = 0 ∧ paint a2.P 0 w w' b = 0 ∧ _
 rcases hb with hb | hb
 ·rw [(paint_zero h1.lim b).1, (paint_zero h2.lim b).1]; exact ⟨(h4 b hb).1, (h4 b hb).2.1, Nat.lt_of_lt_of_le (h4 b hb).2.2 hz⟩
 exact ⟨(paint_zero h1.lim b).2 hb.1, (paint_zero h2.lim b).2 hb.1, hb.2⟩
theorem TwoG.mono {R' : Nat → Prop} (h : TwoG RT R w p m p2 m2) (hs : ∀ b, R' b → R b) (h' : ∀ b, RT b → R' b) : TwoG RT R' w p m p2 m2 := by
 obtain ⟨a, a2, h1, h2, h3, h4, h6⟩ := h
 exact ⟨a, a2, h1, h2, h3, fun b hb => h4 b (hs b hb), h'⟩
theorem TwoG.sub (h : TwoG RT R w p m p2 m2) : ∀ b, RT b → R b := by obtain ⟨a, a2, h1, h2, h3, h4, h6⟩ := h; exact h6
theorem TwoG.chg (h : TwoG RT R w p m p2 m2) (hc : G.Chg (fun _ => False) w w') : TwoG RT R w' p m p2 m2 := (h.grow hc).mono (fun _ h => .inl h) h.sub
theorem TwoG.below (h : TwoG RT R w p m p2 m2) (hb : Below w.heap.size w w') : TwoG RT R w' p m p2 m2 := h.chg (G.Chg.of_below hb (Nat.le_refl _))
theorem TwoG.one (h : TwoG RT R w p m p2 m2) : WoN R w p m := by obtain ⟨R', h1, h2, _⟩ := h.left; exact h1.mono h2
theorem TwoG.two (h : TwoG RT R w p m p2 m2) : GloN RT R w p2 m2 := by obtain ⟨R', h1, h2, _⟩ := h.right; exact h1.mono h2
theorem TwoG.made (h1 : WoN R w p m) (hR : ∀ b, R b → b < w.heap.size) (h2 : GloN RT (fun b => b < w.heap.size) w' p2 m2) (hb : Below w.heap.size w w') (h6 : ∀ b, RT b → R b) : TwoG RT R w' p m p2 m2 := by
 obtain ⟨a, ha, h5⟩ := h1
 obtain ⟨a2, ha2, h7⟩ := h2
 have hz := hb.size
 refine ⟨_, a2, ha.turn (G.Chg.of_below (S := fun _ => False) hb (Nat.le_refl _)) (fun _ h => h.elim), ha2, fun b => ?_, fun b hb2 => ?_, h6⟩
 ·show paint a.P 0 w w' b = 0 ∨ _
  rcases Nat.lt_or_ge b w.heap.size with c | c
  ·exact .inr (h7 b c).1
  exact .inl ((paint_zero ha.lim b).2 c)
 have := hR b hb2
 refine ⟨?_, (h7 b this).1, by omega⟩
 show paint a.P 0 w w' b = 0
 rw [(paint_zero ha.lim b).1]; exact (h5 b hb2).1
end
open Go.RowKit
theorem epod_equal (u v : Value) (l : List G.Pod) (w : World) (hu : G.ListIn w 3 G.Pod.enc u l) (hv : G.ListIn w 3 G.Pod.enc v l) (hl : l.length ≤ 100000000) :
  Calls Tryz.prog 48 #[u, v] w fun e w' => e = .returned (.bool true) ∧ G.Chg (fun _ => False) w w' := by
 obtain ⟨A, c, rfl, hA⟩ := hu
 obtain ⟨A', c', rfl, hA'⟩ := hv
 have HA := J hA; have HA' := J hA'
 clear hA hA'
 go_enter Tryz.func48, Tryz.ntmps48
 go_wp2_with fail
 go_loopw [13] (fun i wr => ∃ k : Nat, k ≤ l.length ∧ i = .int .i64 k ∧ G.Chg (fun _ => False) w wr) (fun i _ => l.length - (intOf i).toNat)
 case atStart => exact ⟨0, by omega, rfl, G.Chg.refl _ _⟩
 obtain ⟨k, hk, rfl, hch⟩ := hrel
 by_cases hlt : k < l.length
 ·obtain ⟨b, off, e1, hb, hc⟩ := HA.u (by omega)
  obtain ⟨b', off', e1', hb', hc'⟩ := HA'.u (by omega)
  subst e1 e1'
  obtain ⟨m, hm⟩ := G.get_some l hlt
  have cl : ∀ (j : Nat) (u : Value), m.enc[j]? = some u → wr.cell? ⟨b, off + k * 3 + j, none⟩ = some u := fun j u hu => (World.cell?_of_block (w := w) (a := ⟨b, off + k * 3 + j, none⟩) (hch.block b hb (fun h => h))).trans (hc k m j u hm hu)
  have cl' : ∀ (j : Nat) (u : Value), m.enc[j]? = some u → wr.cell? ⟨b', off' + k * 3 + j, none⟩ = some u := fun j u hu => (World.cell?_of_block (w := w) (a := ⟨b', off' + k * 3 + j, none⟩) (hch.block b' hb' (fun h => h))).trans (hc' k m j u hm hu)
  have c0 : wr.cell? ⟨b, off + k * 3, none⟩ = _ := cl 0 _ rfl
  have d0 : wr.cell? ⟨b', off' + k * 3, none⟩ = _ := cl' 0 _ rfl
  have c1 := cl 1 _ rfl; have c2 := cl 2 _ rfl; have d1 := cl' 1 _ rfl; have d2 := cl' 2 _ rfl
  have i0 : (0 : Int) ≤ (k : Int) := by omega
  have i1 : (k : Int) < (l.length : Int) := by omega
  clear hc hc' hm HA HA' cl cl'
  go_wp2_with fail
  go_quiet (fail)
  go_wp2_with fail
  go_roundw
  case rel => exact ⟨k + 1, by omega, by go_num, hch.drewN _⟩
  case measure => simp [intOf]; omega
 go_wp2_with fail
 go_ret
 exact ⟨rfl, hch⟩
theorem ereq_equal (u v : Value) (l : List G.Req) (w : World) (hu : G.ListIn w 5 G.Req.enc u l) (hv : G.ListIn w 5 G.Req.enc v l) (hl : l.length ≤ 100000000) :
  Calls Tryz.prog 50 #[u, v] w fun e w' => e = .returned (.bool true) ∧ G.Chg (fun _ => False) w w' := by
 obtain ⟨A, c, rfl, hA⟩ := hu
 obtain ⟨A', c', rfl, hA'⟩ := hv
 have HA := J hA; have HA' := J hA'
 clear hA hA'
 go_enter Tryz.func50, Tryz.ntmps50
 go_wp2_with fail
 go_loopw [13] (fun i wr => ∃ k : Nat, k ≤ l.length ∧ i = .int .i64 k ∧ G.Chg (fun _ => False) w wr) (fun i _ => l.length - (intOf i).toNat)
 case atStart => exact ⟨0, by omega, rfl, G.Chg.refl _ _⟩
 obtain ⟨k, hk, rfl, hch⟩ := hrel
 by_cases hlt : k < l.length
 ·obtain ⟨b, off, e1, hb, hc⟩ := HA.u (by omega)
  obtain ⟨b', off', e1', hb', hc'⟩ := HA'.u (by omega)
  subst e1 e1'
  obtain ⟨m, hm⟩ := G.get_some l hlt
  have cl : ∀ (j : Nat) (u : Value), m.enc[j]? = some u → wr.cell? ⟨b, off + k * 5 + j, none⟩ = some u := fun j u hu => (World.cell?_of_block (w := w) (a := ⟨b, off + k * 5 + j, none⟩) (hch.block b hb (fun h => h))).trans (hc k m j u hm hu)
  have cl' : ∀ (j : Nat) (u : Value), m.enc[j]? = some u → wr.cell? ⟨b', off' + k * 5 + j, none⟩ = some u := fun j u hu => (World.cell?_of_block (w := w) (a := ⟨b', off' + k * 5 + j, none⟩) (hch.block b' hb' (fun h => h))).trans (hc' k m j u hm hu)
  have c0 : wr.cell? ⟨b, off + k * 5, none⟩ = _ := cl 0 _ rfl
  have d0 : wr.cell? ⟨b', off' + k * 5, none⟩ = _ := cl' 0 _ rfl
  have c1 := cl 1 _ rfl; have c2 := cl 2 _ rfl; have c3 := cl 3 _ rfl; have c4 := cl 4 _ rfl; have d1 := cl' 1 _ rfl; have d2 := cl' 2 _ rfl; have d3 := cl' 3 _ rfl; have d4 := cl' 4 _ rfl
  have i0 : (0 : Int) ≤ (k : Int) := by omega
  have i1 : (k : Int) < (l.length : Int) := by omega
  clear hc hc' hm HA HA' cl cl'
  go_wp2_with fail
  go_quiet (fail)
  go_wp2_with fail
  go_roundw
  case rel => exact ⟨k + 1, by omega, by go_num, hch.drewN _⟩
  case measure => simp [intOf]; omega
 go_wp2_with fail
 go_ret
 exact ⟨rfl, hch⟩
theorem emsg_equal (u v : Value) (l : List G.Msg) (w : World) (hu : G.ListIn w 3 G.Msg.enc u l) (hv : G.ListIn w 3 G.Msg.enc v l) (hl : l.length ≤ 100000000) :
  Calls Tryz.prog 55 #[u, v] w fun e w' => e = .returned (.bool true) ∧ G.Chg (fun _ => False) w w' := by
 obtain ⟨A, c, rfl, hA⟩ := hu
 obtain ⟨A', c', rfl, hA'⟩ := hv
 have HA := J hA; have HA' := J hA'
 clear hA hA'
 go_enter Tryz.func55, Tryz.ntmps55
 go_wp2_with fail
 go_loopw [13] (fun i wr => ∃ k : Nat, k ≤ l.length ∧ i = .int .i64 k ∧ G.Chg (fun _ => False) w wr) (fun i _ => l.length - (intOf i).toNat)
 case atStart => exact ⟨0, by omega, rfl, G.Chg.refl _ _⟩
 obtain ⟨k, hk, rfl, hch⟩ := hrel
 by_cases hlt : k < l.length
 ·obtain ⟨b, off, e1, hb, hc⟩ := HA.u (by omega)
  obtain ⟨b', off', e1', hb', hc'⟩ := HA'.u (by omega)
  subst e1 e1'
  obtain ⟨m, hm⟩ := G.get_some l hlt
  have cl : ∀ (j : Nat) (u : Value), m.enc[j]? = some u → wr.cell? ⟨b, off + k * 3 + j, none⟩ = some u := fun j u hu => (World.cell?_of_block (w := w) (a := ⟨b, off + k * 3 + j, none⟩) (hch.block b hb (fun h => h))).trans (hc k m j u hm hu)
  have cl' : ∀ (j : Nat) (u : Value), m.enc[j]? = some u → wr.cell? ⟨b', off' + k * 3 + j, none⟩ = some u := fun j u hu => (World.cell?_of_block (w := w) (a := ⟨b', off' + k * 3 + j, none⟩) (hch.block b' hb' (fun h => h))).trans (hc' k m j u hm hu)
  have c0 : wr.cell? ⟨b, off + k * 3, none⟩ = _ := cl 0 _ rfl
  have d0 : wr.cell? ⟨b', off' + k * 3, none⟩ = _ := cl' 0 _ rfl
  have c1 := cl 1 _ rfl; have c2 := cl 2 _ rfl; have d1 := cl' 1 _ rfl; have d2 := cl' 2 _ rfl
  have i0 : (0 : Int) ≤ (k : Int) := by omega
  have i1 : (k : Int) < (l.length : Int) := by omega
  clear hc hc' hm HA HA' cl cl'
  go_wp2_with fail
  go_quiet (fail)
  go_wp2_with fail
  go_roundw
  case rel => exact ⟨k + 1, by omega, by go_num, hch.drewN _⟩
  case measure => simp [intOf]; omega
 go_wp2_with fail
 go_ret
 exact ⟨rfl, hch⟩
open Go.RowKit
def OwnInt (w : World) (v : Value) (l : List Int) : Prop := ∃ A cap, v = .slice A l.length cap ∧ (0 < l.length → ∃ b, A = some ⟨b, 0, none⟩ ∧ b < w.heap.size ∧ ∀ (i : Nat) (x : Int), l[i]? = some x → w.cell? ⟨b, i, none⟩ = some (.int .i64 x))
theorem own_int {S : Nat → Prop} {w : World} {v : Value} {l : List Int} (h : G.OwnRow S w 3 1 v l.length (l.map (.int .i64))) : OwnInt w v l := by
 obtain ⟨A, cap, rfl, h1, h2, h3⟩ := h.slice
 refine ⟨A, cap, rfl, fun h0 => ?_⟩
 obtain ⟨b, e, hS, hr⟩ := h3 h0
 exact ⟨b, e, hr.inside, fun i x hx => hr.cell (by rw [List.getElem?_map, hx]; rfl)⟩
theorem OwnInt.below {w w' : World} {v : Value} {l : List Int} (h : OwnInt w v l) (hb : Below w.heap.size w w') : OwnInt w' v l := by
 obtain ⟨A, cap, rfl, h3⟩ := h
 refine ⟨A, cap, rfl, fun h0 => ?_⟩
 obtain ⟨b, e, hl, hc⟩ := h3 h0
 exact ⟨b, e, Nat.lt_of_lt_of_le hl hb.size, fun i x hx => (hb.cell (p := ⟨b, i, none⟩) hl).trans (hc i x hx)⟩
theorem eint_equal (u v : Value) (l : List Int) (w : World) (hu : OwnInt w u l) (hv : OwnInt w v l) (hl : l.length ≤ 1000000) :
  Calls Tryz.prog 52 #[u, v] w fun e w' => e = .returned (.bool true) ∧ G.Chg (fun _ => False) w w' := by
 obtain ⟨A, c, rfl, hA⟩ := hu
 obtain ⟨A', c', rfl, hA'⟩ := hv
 have HA := J hA; have HA' := J hA'
 clear hA hA'
 go_enter Tryz.func52, Tryz.ntmps52
 go_wp2_with fail
 go_loopw [13] (fun i wr => ∃ k : Nat, k ≤ l.length ∧ i = .int .i64 k ∧ G.Chg (fun _ => False) w wr) (fun i _ => l.length - (intOf i).toNat)
 case atStart => exact ⟨0, by omega, rfl, G.Chg.refl _ _⟩
 obtain ⟨k, hk, rfl, hch⟩ := hrel
 by_cases hlt : k < l.length
 ·obtain ⟨b, e1, hb, hc⟩ := HA.u (by omega)
  obtain ⟨b', e1', hb', hc'⟩ := HA'.u (by omega)
  subst e1 e1'
  obtain ⟨m, hm⟩ := G.get_some l hlt
  have c0 : wr.cell? ⟨b, k, none⟩ = _ := (World.cell?_of_block (w := w) (a := ⟨b, k, none⟩) (hch.block b hb (fun h => h))).trans (hc k m hm)
  have d0 : wr.cell? ⟨b', k, none⟩ = _ := (World.cell?_of_block (w := w) (a := ⟨b', k, none⟩) (hch.block b' hb' (fun h => h))).trans (hc' k m hm)
  have i0 : (0 : Int) ≤ (k : Int) := by omega
  have i1 : (k : Int) < (l.length : Int) := by omega
  clear hc hc' hm HA HA'
  go_wp2_with fail
  go_quiet (fail)
  go_wp2_with fail
  go_roundw
  case rel => exact ⟨k + 1, by omega, by go_num, hch.drewN _⟩
  case measure => simp [intOf]; omega
 go_wp2_with fail
 go_ret
 exact ⟨rfl, hch⟩
open Go.RowKit
structure SAt (RT R R2 S : Nat → Prop) (w0 w : World) (p : Wp) (mw m : Wo) (p2 : Wp) (vp vb vl : Value) : Prop where
 two : TwoG RT R2 w p mw p2 { m with q := G.nowLst m.q m.now }
 hg : G.At w p2.g 84 (gloC p2 m)
 hf : G.At w p2.gf 78 #[vp, .int .i64 m.fl, .int .i64 m.most]
 hb : G.At w p2.gb 82 #[vb]
 lq : G.OwnRow S w 111 3 vl (G.allLst m.q m.now).length ((G.allLst m.q m.now).flatMap G.Msg.enc)
 chg : G.Chg (fun b => ¬ R b) w0 w
 sub : ∀ b, R b → R2 b
 sq : ∀ b, S b → R2 b
def SLs (w : World) (m : Wo) (vp vb : Value) : Prop := G.ListIn w 3 G.Pod.enc vp m.f ∧ G.ListIn w 5 G.Req.enc vb m.b
theorem SLs.below {w w' : World} {m : Wo} {vp vb : Value} (h : SLs w m vp vb) (hb : Below w.heap.size w w') : SLs w' m vp vb := ⟨h.1.below hb (Nat.le_refl _), h.2.below hb (Nat.le_refl _)⟩
theorem SLs.calm {w w' : World} {m : Wo} {vp vb : Value} (h : SLs w m vp vb) (hc : G.Chg (fun _ => False) w w') : SLs w' m vp vb := h.below (hc.below (Nat.le_refl _) (fun _ _ h => h))
section
variable {RT R R2 S : Nat → Prop} {w0 w w' : World} {p p2 : Wp} {mw m : Wo} {vp vb vl : Value}
theorem SAt.below (h : SAt RT R R2 S w0 w p mw m p2 vp vb vl) (hb : Below w.heap.size w w') : SAt RT R R2 S w0 w' p mw m p2 vp vb vl :=
 ⟨h.two.below hb, h.hg.below hb h.hg.inside, h.hf.below hb h.hf.inside, h.hb.below hb h.hb.inside, h.lq.chg (C := fun _ => False) (G.Chg.of_below hb (Nat.le_refl _)) (fun _ _ h => h), h.chg.trans (G.Chg.of_below hb (Nat.le_refl _)), h.sub, h.sq⟩
theorem SAt.calm (h : SAt RT R R2 S w0 w p mw m p2 vp vb vl) (hc : G.Chg (fun _ => False) w w') : SAt RT R R2 S w0 w' p mw m p2 vp vb vl := h.below (hc.below (Nat.le_refl _) (fun _ _ h => h))
theorem SAt.cells (h : SAt RT R R2 S w0 w p mw m p2 vp vb vl) : w.cell? ⟨p2.g, 7, none⟩ = some (.int .i64 m.now) ∧ w.cell? ⟨p2.g, 8, none⟩ = some (.int .i64 m.target) ∧ w.cell? ⟨p2.g, 3, none⟩ = some (.pointer (some ⟨p2.gf, 0, none⟩)) ∧ w.cell? ⟨p2.g, 4, none⟩ = some (.pointer (some ⟨p2.gb, 0, none⟩)) ∧ w.cell? ⟨p2.g, 1, none⟩ = some (.pointer (some ⟨p2.gt, 0, none⟩)) ∧ w.cell? ⟨p2.gf, 0, none⟩ = some (vp) ∧ w.cell? ⟨p2.gb, 0, none⟩ = some (vb) :=
 ⟨h.hg.here (i := 7) rfl, h.hg.here (i := 8) rfl, h.hg.here (i := 3) rfl, h.hg.here (i := 4) rfl, h.hg.here (i := 1) rfl, h.hf.here (i := 0) rfl, h.hb.here (i := 0) rfl⟩
theorem SAt.msgs {R3 : Nat → Prop} (h : SAt RT R R2 S w0 w p m m p2 vp vb vl) (hs : ∀ b, R2 b → R3 b) (hg : R3 p2.g ∧ R3 p2.gf ∧ R3 p2.gb)
  (hst : ∀ (w' : World) (m' : Wo), WoN (fun b => R3 b ∨ (w.heap.size ≤ b ∧ b < w'.heap.size)) w' p m' → G.Chg (fun b => ¬ R3 b) w w' → TwoG RT (fun b => R2 b ∨ (w.heap.size ≤ b ∧ b < w'.heap.size)) w' p m' p2 { m with q := G.nowLst m.q m.now } ∧ G.Chg (fun b => ¬ R2 b) w w')
  (hn : WoN (fun b => R3 b ∨ (w.heap.size ≤ b ∧ b < w'.heap.size)) w' p { m with q := G.nowLst m.q m.now }) (hc : G.Chg (fun b => ¬ R3 b) w w') : SAt RT R (fun b => R2 b ∨ (w.heap.size ≤ b ∧ b < w'.heap.size)) S w0 w' p { m with q := G.nowLst m.q m.now } m p2 vp vb vl := by
 obtain ⟨h1, h2⟩ := hst w' _ hn hc
 exact ⟨h1, h.hg.chg hc (fun k => k hg.1), h.hf.chg hc (fun k => k hg.2.1), h.hb.chg hc (fun k => k hg.2.2), h.lq.chg hc (fun b hb k => k (hs b (h.sq b hb))), h.chg.trans (h2.mono fun b _ hb hR => hb (h.sub b hR)), fun b hb => .inl (h.sub b hb), fun b hb => .inl (h.sq b hb)⟩
theorem SAt.make (h : TwoG RT R2 w p m p2 { m with q := G.nowLst m.q m.now }) (hl : G.OwnRow S w 111 3 vl (G.allLst m.q m.now).length ((G.allLst m.q m.now).flatMap G.Msg.enc)) (hc : G.Chg (fun b => ¬ R b) w0 w) (hs : ∀ b, R b → R2 b) (hq : ∀ b, S b → R2 b) : ∃ vp vb, SAt RT R R2 S w0 w p m m p2 vp vb vl ∧ SLs w m vp vb := by
 obtain ⟨a, a2, h1, h2, h3, h4, h6⟩ := id h
 exact ⟨a2.vp, a2.vb, ⟨h, h2.head, h2.fl.head, h2.bu.head, hl, hc, hs, hq⟩, h2.fl.row.list G.Pod.enc_length, h2.bu.row.list G.Req.enc_length⟩
end
def SamePost (RT R : Nat → Prop) (w : World) (p p2 : Wp) (m : Wo) (e : Ending) (w' : World) : Prop := e = .returned (.bool true) ∧ TwoG RT R w' p { m with q := G.nowLst m.q m.now } p2 { m with q := G.nowLst m.q m.now } ∧ G.Chg (fun b => ¬ R b) w w'
theorem sameC (RT R : Nat → Prop) (p p2 : Wp) (m : Wo) (j : Nat) (w : World) (h : TwoG RT R w p m p2 m) (hk : m.ok j) (hj : j ≤ 88000) :
  Calls Tryz.prog 10 #[.pointer (some ⟨p.g, 0, none⟩), .pointer (some ⟨p2.g, 0, none⟩)] w (SamePost RT R w p p2 m) := by
 have HSub := J h.sub
 have HFn := J (show m.f.length ≤ 100000000 by have := hk.fn; omega)
 have HBn := J (show m.b.length ≤ 100000000 by have := hk.bn; omega)
 have HLn := J (show (lagsOf m.t).length ≤ 1000000 by have := hk.tn; unfold lagsOf; rw [List.length_map]; omega)
 have HQn := J (show (G.allLst m.q m.now).length ≤ 100000000 by
  have := hk.qn
  unfold G.allLst; split
  ·unfold G.backAll; rw [List.length_map]; omega
  simp)
 have HTp := J hk.tp
 have x2 := h.two.at.here (i := 2) rfl
 have x7 := h.two.at.here (i := 7) rfl
 obtain ⟨R1, hw1, hs1, hst1⟩ := (h.below ((Below.refl w.heap.size w).drew)).rightN
 have HW1 := J hw1; have HS1 := J hst1
 clear h hk hj hw1 hs1 hst1
 go_enter Tryz.func10, Tryz.ntmps10
 go_upto_region 1 with fail
 go_region_held3 (fun w' => w'.cell? ⟨p2.g, 2, none⟩ = some (.pointer (some ⟨p2.gq, 0, none⟩)) ∧ w'.cell? ⟨p2.g, 7, none⟩ = some (.int .i64 m.now)) (first | exact ⟨y2, y7⟩ | go_keep) ((go_at_call 45; refine (gloMsgs m.now _ HW1.u).mono ?_; rintro e wq ⟨⟨vl, rfl, ho⟩, hn, hc⟩; have y2 := hn.at.here (i := 2) rfl; have y7 := hn.at.here (i := 7) rfl))
 all_goals
  obtain ⟨hT, hch⟩ := HS1.u _ _ hn hc
  obtain ⟨vp, vb, hA, hV⟩ := SAt.make (S := fun b => w.heap.size ≤ b ∧ b < wq.heap.size) hT (ho.mono fun g hg hs => ⟨hs, hg⟩) ((G.Chg.refl _ w).drew.trans hch) (fun b hb => .inl hb) (fun b hb => .inr hb)
  obtain ⟨Al, cl, rfl, _⟩ := ho.slice
  have HA0 := J (hA.below ((Below.refl wq.heap.size wq).drew))
  have HV0 := J (hV.below ((Below.refl wq.heap.size wq).drew))
  have k0 := HA0.u.cells
  clear hT hch hA hV ho hn hc y2 y7 x2 x7 HW1 HS1
  have t0 : (m.now == m.now) = true := by simp
  have t1 : (m.target == m.target) = true := by simp
  go_upto_region 2 with fail
  go_region_held3 (fun w' => w'.cell? ⟨p2.g, 7, none⟩ = some (.int .i64 m.now) ∧ w'.cell? ⟨p2.g, 8, none⟩ = some (.int .i64 m.target) ∧ w'.cell? ⟨p2.g, 3, none⟩ = some (.pointer (some ⟨p2.gf, 0, none⟩)) ∧ w'.cell? ⟨p2.g, 4, none⟩ = some (.pointer (some ⟨p2.gb, 0, none⟩)) ∧ w'.cell? ⟨p2.g, 1, none⟩ = some (.pointer (some ⟨p2.gt, 0, none⟩)) ∧ w'.cell? ⟨p2.gf, 0, none⟩ = some (vp) ∧ w'.cell? ⟨p2.gb, 0, none⟩ = some (vb)) (first | exact k9 | exact k8 | exact k7 | exact k6 | exact k5 | exact k4 | exact k3 | exact k2 | exact k1 | exact k0 | go_keep) (first | (go_at_call 46; refine (woNow HA0.u.two.one).mono ?_; rintro e w' ⟨rfl, rfl⟩; skip) | (go_at_call 47; refine (woTarget HA0.u.two.one).mono ?_; rintro e w' ⟨rfl, rfl⟩; skip) | (go_at_call 49; refine (woPodsOf HA0.u.two.one).mono ?_; rintro e w1 ⟨v1, rfl, ho, hb⟩; have HA1 := J (HA0.u.below hb); have k1 := HA1.u.cells; have HV1 := J (HV0.u.below hb); have HL1 := J (ho.list G.Pod.enc_length); clear ho hb) | (go_at_call 48; refine (epod_equal _ _ m.f _ HL1.u HV1.u.1 HFn.u).mono ?_; rintro e w2 ⟨rfl, hc⟩; have HA2 := J (HA1.u.calm hc); have k2 := HA2.u.cells; have HV2 := J (HV1.u.calm hc); clear hc) | (go_at_call 51; refine (woReqsOf HA2.u.two.one).mono ?_; rintro e w3 ⟨v3, rfl, ho, hb⟩; have HA3 := J (HA2.u.below hb); have k3 := HA3.u.cells; have HV3 := J (HV2.u.below hb); have HL3 := J (ho.list G.Req.enc_length); clear ho hb) | (go_at_call 50; refine (ereq_equal _ _ m.b _ HL3.u HV3.u.2 HBn.u).mono ?_; rintro e w4 ⟨rfl, hc⟩; have HA4 := J (HA3.u.calm hc); have k4 := HA4.u.cells; have HV4 := J (HV3.u.calm hc); clear hc) | (go_at_call 53; refine (woLagsOf HA4.u.two.one HTp.u).mono ?_; rintro e w5 ⟨v5, rfl, ho, hb⟩; have HA5 := J (HA4.u.below hb); have k5 := HA5.u.cells; have HV5 := J (HV4.u.below hb); have HL5 := J (own_int (G.OwnRow.of_owns (S := fun _ => True) ho (fun _ _ => trivial))); clear ho hb) | (go_at_call 54; refine (gloLags _ HA5.u.two.two HTp.u).mono ?_; rintro e w6 ⟨v6, rfl, ho, hb⟩; have HA6 := J (HA5.u.below hb); have k6 := HA6.u.cells; have HV6 := J (HV5.u.below hb); have HL6 := J (own_int (G.OwnRow.of_owns (S := fun _ => True) ho (fun _ _ => trivial))); have HL7 := J (HL5.u.below hb); clear ho hb) | (go_at_call 52; refine (eint_equal _ _ (lagsOf m.t) _ HL7.u HL6.u HLn.u).mono ?_; rintro e w7 ⟨rfl, hc⟩; have HA7 := J (HA6.u.calm hc); have k7 := HA7.u.cells; have HV7 := J (HV6.u.calm hc); obtain ⟨R3, hw3, hs3, hg3, hst3⟩ := HA7.u.two.leftN; have HW3 := J hw3; have HM3 := J (fun wz => HA7.u.msgs (w' := wz) hs3 hg3 hst3); clear hc hw3 hs3 hg3 hst3) | (go_at_call 56; refine (woMsgsOf HW3.u).mono ?_; rintro e w8 ⟨v8, rfl, ho, hn, hc⟩; have HA8 := J (HM3.u _ hn hc); have HL8 := J (ho.list G.Msg.enc_length); have k8 := HA8.u.cells; clear ho hn hc) | (go_at_call 55; refine (emsg_equal _ _ (G.allLst m.q m.now) _ HL8.u (HA8.u.lq.list G.Msg.enc_length) HQn.u).mono ?_; rintro e w9 ⟨rfl, hc⟩; have HA9 := J (HA8.u.calm hc); have k9 := HA9.u.cells; clear hc))
  all_goals
   have HF := J (show SamePost RT R w p p2 m (.returned (.bool true)) w9 from ⟨rfl, HA9.u.two.mono (fun b hb => HA9.u.sub b hb) HSub.u, HA9.u.chg⟩)
   clear k0 k1 k2 k3 k4 k5 k6 k7 k8 k9
   go_wp2_with fail
   go_ret
   exact HF.u
open Go.RowKit
theorem hap_row {w wr : World} {A : Option Addr} {l : List (List Int)} {k : Nat} (hA : RowsAt w 3 A l) (hr : ∀ row ∈ l, row.length = 3 ∧ ∀ x ∈ row, -9223372036854775808 ≤ x ∧ x ≤ 9223372036854775807) (hb : Below w.heap.size w wr) (hk : k < l.length) :
  ∃ b off x y z, A = some ⟨b, off, none⟩ ∧ wr.cell? ⟨b, off + k * 3, none⟩ = some (.int .i64 x) ∧ wr.cell? ⟨b, off + k * 3 + 1, none⟩ = some (.int .i64 y) ∧ wr.cell? ⟨b, off + k * 3 + 2, none⟩ = some (.int .i64 z) ∧ l[k]? = some [x, y, z] ∧ (-9223372036854775808 ≤ z ∧ z ≤ 9223372036854775807) ∧ b < wr.heap.size := by
 obtain ⟨b, off, e, hlt, hc⟩ := hA (by omega)
 have hrow : l[k]? = some l[k] := List.getElem?_eq_getElem hk
 have hm := hr _ (List.getElem_mem hk)
 obtain ⟨x, y, z, hxyz⟩ : ∃ x y z, l[k] = [x, y, z] := by
  match l[k], hm.1 with
  | [x, y, z], _ => exact ⟨x, y, z, rfl⟩
 rw [hxyz] at hrow hm
 exact ⟨b, off, x, y, z, e, (hb.cell (p := ⟨b, off + k * 3, none⟩) hlt).trans (hc k _ 0 x hrow rfl), (hb.cell (p := ⟨b, off + k * 3 + 1, none⟩) hlt).trans (hc k _ 1 y hrow rfl), (hb.cell (p := ⟨b, off + k * 3 + 2, none⟩) hlt).trans (hc k _ 2 z hrow rfl), hrow, hm.2 z (by simp), Nat.lt_of_lt_of_le hlt hb.size⟩
inductive AnyNew (w : World) (p : Pln) (parts most sec : Int) : Ending → World → Prop
 | bad (w' : World) (E : Int) (he : newE p parts sec = E) (h0 : E ≠ 0) (hb : Below w.heap.size w w') : AnyNew w p parts most sec (.returned (.tuple #[.pointer none, .int .i64 E])) w'
 | good (w' : World) (q : Wp) (he : newE p parts sec = 0) (hn : WoN (fun b => b < w.heap.size) w' q (newWo p parts most sec)) (hok : (newWo p parts most sec).ok 0) (hb : Below w.heap.size w w') : AnyNew w p parts most sec (.returned (.tuple #[.pointer (some ⟨q.g, 0, none⟩), .int .i64 0])) w'
theorem anyNew (p : Pln) (A : Option Addr) (cap : Nat) (parts most sec : Int) (w : World) (ht : G.ListIn w 17 Trg.enc (.slice A p.trigs.length cap) p.trigs) (hf : ∀ t ∈ p.trigs, t.fits) (hn : p.name.size ≤ 9223372036854775807) (hl : p.trigs.length ≤ 9223372036854775807) :
  Calls Tryz.prog 4 #[plnV p (.slice A p.trigs.length cap), .int .i64 parts, .int .i64 most, .int .i64 sec] w (AnyNew w p parts most sec) := by
 by_cases hE : planE p = 0
 ·by_cases hb : (parts < 1 ∨ 20 < parts) ∨ (sec < -10000000000 ∨ 10000000000 < sec)
  ·have he : newE p parts sec = 1 := by
    unfold newE
    rw [if_neg (by rw [hE]; simp)]
    split
    ·rfl
    split
    ·rfl
    omega
   refine (woNewNo p A cap parts most sec w ht hf hn hE hb).mono ?_
   rintro e w' ⟨rfl, h⟩
   exact .bad w' _ rfl (by rw [he]; decide) h
  have he : newE p parts sec = 0 := by
   unfold newE
   rw [if_neg (by rw [hE]; simp), if_neg (by omega), if_neg (by omega)]
  obtain ⟨n, rfl⟩ := Int.eq_ofNat_of_zero_le (show 0 ≤ parts by omega)
  refine (woNewYes p A cap n most sec w ht hf hn hE (by omega) (by omega) (by omega) (by omega)).mono ?_
  rintro e w' ⟨q, rfl, h1, h2⟩
  exact .good w' q he h1 (ok_new hE hf (by omega) (by omega) (by omega)) h2
 refine (woNewBad p A cap parts most sec w ht hf hn hl hE).mono ?_
 rintro e w' ⟨rfl, h⟩
 exact .bad w' _ rfl (by rw [wo_new_err1 hE]; exact hE) h
open Go.RowKit
theorem ok_now {m : Wo} {j : Nat} (h : m.ok j) (now : Int) : ({ m with q := G.nowLst m.q now } : Wo).ok j := { h with qn := by show (G.nowLst _ _).length ≤ 200; rw [G.back_length]; exact h.qn }
def GRun (w wr : World) (q q2 : Wp) (m : Wo) (k : Nat) : Prop := TwoG (fun b => b < w.heap.size) (fun b => b < w.heap.size) wr q m q2 m ∧ Below w.heap.size w wr ∧ m.ok (1000 * k) ∧ m.fit
theorem new_cases (p : Pln) (parts sec : Int) : (planE p ≠ 0 ∧ newE p parts sec = planE p) ∨ (planE p = 0 ∧ newE p parts sec = 1 ∧ (parts < 1 ∨ 20 < parts)) ∨ (planE p = 0 ∧ newE p parts sec = 1 ∧ (1 ≤ parts ∧ parts ≤ 20) ∧ (sec < -10000000000 ∨ 10000000000 < sec)) ∨ (planE p = 0 ∧ newE p parts sec = 0 ∧ (1 ≤ parts ∧ parts ≤ 20) ∧ (-10000000000 ≤ sec ∧ sec ≤ 10000000000)) := by
 unfold newE
 by_cases h1 : planE p = 0
 ·rw [if_neg (by rw [h1]; simp)]
  by_cases h2 : parts < 1 ∨ 20 < parts
  ·rw [if_pos h2]; exact .inr (.inl ⟨h1, rfl, h2⟩)
  rw [if_neg h2]
  by_cases h3 : sec < -10000000000 ∨ 10000000000 < sec
  ·rw [if_pos h3]; exact .inr (.inr (.inl ⟨h1, rfl, by omega, h3⟩))
  rw [if_neg h3]; exact .inr (.inr (.inr ⟨h1, rfl, by omega, by omega⟩))
 rw [if_pos h1]; exact .inl ⟨h1, rfl⟩
theorem worldPlays_walk (p : Pln) (A : Option Addr) (cap : Nat) (parts most sec : Int) (A1 : Option Addr) (cap1 : Nat) (l : List (List Int)) (w : World) (ht : G.ListIn w 17 Trg.enc (.slice A p.trigs.length cap) p.trigs) (hf : ∀ t ∈ p.trigs, t.fits) (hn : p.name.size ≤ 9223372036854775807) (hl : p.trigs.length ≤ 9223372036854775807)
  (hr : ∀ row ∈ l, row.length = 3 ∧ ∀ x ∈ row, -9223372036854775808 ≤ x ∧ x ≤ 9223372036854775807) (hA : RowsAt w 3 A1 l) (hl1 : l.length ≤ 9223372036854775807) :
  Calls Tryz.prog 3 #[plnV p (.slice A p.trigs.length cap), .int .i64 parts, .int .i64 most, .int .i64 sec, .slice A1 l.length cap1] w fun e w' => e = .returned (.bool true) ∧ Below w.heap.size w w' := by
 have HB := J ((Below.refl w.heap.size w).alloc (Nat.le_refl _) (.cells (plnC p (.slice A p.trigs.length cap)) 26))
 have HX := J (G.At.made w 26 (plnC p (.slice A p.trigs.length cap)))
 have HC := J (fun (W : World) (hb : Below w.heap.size w W) => anyNew p A cap parts most sec W (ht.below hb (Nat.le_refl _)) hf hn hl)
 have HP := J (fun (W : World) (hb : Below w.heap.size w W) => refPlanV p A cap W (ht.below hb (Nat.le_refl _)) hf hn hl)
 have HG := J (fun (W : World) (hb : Below w.heap.size w W) (h0 : planE p = 0) (h1 : 1 ≤ parts ∧ parts ≤ 20) => gloNew (fun b => b < w.heap.size) p A cap parts most sec W ((TrgIn.of ht).chg (C := fun _ => False) (G.Chg.of_below hb (Nat.le_refl _)) (fun _ _ h => h)) (fun b h => Nat.lt_of_lt_of_le h hb.size) h0 h1.1 h1.2)
 have HA := J hA; have HRw := J hr
 clear ht hf hn hl hA hr
 unfold plnV
 unfold plnC at HB HX
 go_enter Tryz.func3, Tryz.ntmps3
 go_upto_region 1 with fail
 generalize w.alloc (.cells #[.string p.name, .int .i64 p.mn, .int .i64 p.mx, .int .i64 p.poll, .int .i64 p.cool, .int .i64 p.tol, .int .i64 p.back, .int .i64 p.after, .int .i64 p.shift, .int .i64 p.up.win, .int .i64 p.up.pods, .int .i64 p.up.pct, .int .i64 p.up.per, .int .i64 p.down.win, .int .i64 p.down.pods, .int .i64 p.down.pct, .int .i64 p.down.per, .slice A p.trigs.length cap] 26) = W at HB HX ⊢
 have HC1 := J (HC.u _ HB.u)
 go_wp2_with (refine wpList_load_row rfl 26 (.tmp 5) rfl w.heap.size rfl 26 _ (0, 0) _ HX.u Tryz.underlying26 rfl (by kernel_rfl) ?_)
 refine HC1.u.mono ?_
 intro e w2 hp
 clear HC1 HC
 cases hp with
 | bad _ E he h0 hb =>
  have hE0 : (E != 0) = true := by simpa using h0
  have hEE : (E == E) = true := by simp
  have HB2 := J (HB.u.trans (hb.mono HB.u.size))
  have HX2 := J (HX.u.below hb HX.u.inside)
  have HP2 := J (HP.u _ HB2.u)
  have HE := J he
  have HE0 := J h0
  clear he h0 hb HB HX HP HG HA HRw
  go_wp2_with (refine wpList_load_row rfl 26 (.tmp 5) rfl w.heap.size rfl 26 _ (0, 0) _ HX2.u Tryz.underlying26 rfl (by kernel_rfl) ?_)
  refine HP2.u.mono ?_
  rintro e w3 ⟨rfl, hb3⟩
  have HF := J (HB2.u.trans (hb3.mono HB2.u.size))
  clear HP2 HX2 hb3 HB2
  rcases new_cases p parts sec with ⟨k1, k2⟩ | ⟨k1, k2, k3⟩ | ⟨k1, k2, k3, k4⟩ | ⟨k1, k2, k3, k4⟩
  ·rw [HE.u] at k2
   subst k2
   have t0 : (planE p == 0) = false := by simpa using k1
   clear HE HE0 k1
   generalize planE p = E at t0 hE0 hEE ⊢
   go_wp2_with fail
   go_ret
   exact ⟨rfl, HF.u⟩
  ·rw [HE.u] at k2
   subst k2
   have HIn := J (fun (W : World) => refIn_no parts 1 20 W k3)
   rw [k1]
   clear HE HE0 k1 k3
   go_wp2_with fail
   refine (HIn.u _).mono ?_
   rintro e w' ⟨rfl, rfl⟩
   go_wp2_with fail
   go_ret
   exact ⟨rfl, HF.u⟩
  ·rw [HE.u] at k2
   subst k2
   have HIn := J (fun (W : World) => refIn_yes parts 1 20 W k3.1 k3.2)
   have HIs := J (fun (W : World) => refIn_no sec (-10000000000) 10000000000 W k4)
   rw [k1]
   clear HE HE0 k1 k3 k4
   go_wp2_with fail
   refine (HIn.u _).mono ?_
   rintro e w' ⟨rfl, rfl⟩
   go_wp2_with fail
   refine (HIs.u _).mono ?_
   rintro e w' ⟨rfl, rfl⟩
   go_wp2_with fail
   go_ret
   exact ⟨rfl, HF.u⟩
  exfalso; rw [HE.u] at k2; exact HE0.u k2
 | good _ q he hn hok hb =>
  have HB2 := J (HB.u.trans (hb.mono HB.u.size))
  have HX2 := J (HX.u.below hb HX.u.inside)
  have HP2 := J (HP.u _ HB2.u)
  have HNa := J (hn.mono (R' := fun b => b < w.heap.size) fun b hb2 => Nat.lt_of_lt_of_le hb2 HB.u.size)
  have HOk := J hok
  have HE := J he
  clear he hn hok hb HB HX HP
  go_wp2_with (refine wpList_load_row rfl 26 (.tmp 5) rfl w.heap.size rfl 26 _ (0, 0) _ HX2.u Tryz.underlying26 rfl (by kernel_rfl) ?_)
  refine HP2.u.mono ?_
  rintro e w3 ⟨rfl, hb3⟩
  have HB3 := J (HB2.u.trans (hb3.mono HB2.u.size))
  have HX3 := J (HX2.u.below hb3 HX2.u.inside)
  have HN3 := J (HNa.u.below hb3)
  clear HP2 HX2 hb3 HB2 HNa
  rcases new_cases p parts sec with ⟨k1, k2⟩ | ⟨k1, k2, k3⟩ | ⟨k1, k2, k3, k4⟩ | ⟨k1, k2, k3, k4⟩
  ·exfalso; rw [HE.u] at k2; exact k1 k2.symm
  ·exfalso; rw [HE.u] at k2; cases k2
  ·exfalso; rw [HE.u] at k2; cases k2
  have HIn := J (fun (W : World) => refIn_yes parts 1 20 W k3.1 k3.2)
  have HIs := J (fun (W : World) => refIn_yes sec (-10000000000) 10000000000 W k4.1 k4.2)
  have HG3 := J (HG.u _ HB3.u k1 k3)
  rw [k1]
  clear HE k1 k2 k3 k4 HG
  go_wp2_with fail
  refine (HIn.u _).mono ?_
  rintro e w' ⟨rfl, rfl⟩
  go_wp2_with fail
  refine (HIs.u _).mono ?_
  rintro e w' ⟨rfl, rfl⟩
  by_cases h60 : 60 < l.length
  ·have h60' : (60 : Int) < (l.length : Int) := by omega
   have HF := J HB3.u
   clear h60
   go_wp2_with fail
   go_ret
   exact ⟨rfl, HF.u⟩
  have h60' : (l.length : Int) ≤ 60 := by omega
  have HL60 := J (show l.length ≤ 60 by omega)
  clear h60
  go_wp2_with (refine wpList_load_row rfl 26 (.tmp 5) rfl w.heap.size rfl 26 _ (0, 0) _ HX3.u Tryz.underlying26 rfl (by kernel_rfl) ?_)
  refine HG3.u.mono ?_
  rintro e w4 ⟨q2, rfl, hg, hb4⟩
  have HS := J (show GRun w w4 q q2 (newWo p parts most sec) 0 from ⟨TwoG.made HN3.u (fun b hb => Nat.lt_of_lt_of_le hb HB3.u.size) hg hb4 (fun _ h => h), HB3.u.trans (hb4.mono HB3.u.size), HOk.u, fit_new _ _ _ _⟩)
  clear hg hb4 HN3 HB3 HX3 HG3 HIn HIs HOk
  generalize newWo p parts most sec = m0 at HS
  as_aux_lemma =>
  go_wp2_with fail
  go_loopw [62] (fun i wr => ∃ k : Nat, k ≤ l.length ∧ i = .int .i64 k ∧ Hid (∃ m, GRun w wr q q2 m k)) (fun i _ => l.length - (intOf i).toNat)
  case atStart => exact ⟨0, Nat.zero_le _, rfl, J ⟨_, HS.u⟩⟩
  clear HS
  obtain ⟨k, hk, rfl, HK⟩ := hrel
  obtain ⟨m, hT, hB, hok, hfit⟩ := HK.u
  by_cases hlt : k < l.length
  ·obtain ⟨b, off, x, y, z, rfl, c0, c1, c2, hrow, ⟨z0, z1⟩, hbl⟩ := hap_row HA.u HRw.u hB hlt
   have hk0 : (0 : Int) ≤ (k : Int) := by omega
   have hk1 : (k : Int) < (l.length : Int) := by omega
   have hT1 := (hT.grow ((G.Chg.refl (fun _ => False) wr).alloc (.cells #[.int .i64 x, .int .i64 y, .int .i64 z] 37))).mono (R' := fun b => b < w.heap.size ∨ b = wr.heap.size) (fun b hb => hb.imp id (fun e => by subst e; exact ⟨Nat.le_refl _, by simp⟩)) (fun b hb => .inl hb)
   have HXx := J (G.At.made wr 37 #[.int .i64 x, .int .i64 y, .int .i64 z])
   have HBx := J (hB.alloc hB.size (.cells #[.int .i64 x, .int .i64 y, .int .i64 z] 37))
   have HOkk := J hok; have HFt := J hfit
   have HLk := J (show 1000 * k ≤ 86000 by have := HL60.u; omega)
   have HOk2 := J (ok_do hok x y z)
   have HFt2 := J (fit_do hfit hok.ql0 x y z)
   have HSz := J hB.size
   obtain ⟨E, hE⟩ : ∃ E, doE m x y z = E := ⟨_, rfl⟩
   have HE := J hE
   have t0 : (E != E) = false := by simp
   clear hrow hT hok hfit hB HK hE hbl
   go_upto_region 13 with fail
   change Code.wp Tryz.prog _ _ _ (wr.alloc (.cells #[.int .i64 x, .int .i64 y, .int .i64 z] 37))
   generalize wr.alloc (.cells #[.int .i64 x, .int .i64 y, .int .i64 z] 37) = W5 at hT1 HXx HBx ⊢
   clear c0 c1 c2
   obtain ⟨R1, hw1, hs1, hst1⟩ := (hT1.below (Below.refl W5.heap.size W5).drew).left
   have HW1 := J hw1; have HS1 := J hst1
   have k0 : W5.drew.cell? ⟨wr.heap.size, 0, none⟩ = some (.int .i64 x) ∧ W5.drew.cell? ⟨wr.heap.size, 1, none⟩ = some (.int .i64 y) ∧ W5.drew.cell? ⟨wr.heap.size, 2, none⟩ = some (.int .i64 z) := ⟨HXx.u.drew.here (i := 0) rfl, HXx.u.drew.here (i := 1) rfl, HXx.u.drew.here (i := 2) rfl⟩
   clear hw1 hs1 hst1 hT1
   go_region_held3 (fun w' => w'.cell? ⟨wr.heap.size, 0, none⟩ = some (.int .i64 x) ∧ w'.cell? ⟨wr.heap.size, 1, none⟩ = some (.int .i64 y) ∧ w'.cell? ⟨wr.heap.size, 2, none⟩ = some (.int .i64 z)) (first | exact k3 | exact k2 | exact k1 | exact k0 | go_keep) (first | (go_at_call 8; refine (woDo x y z HW1.u HOkk.u (by have := HLk.u; omega) z0 z1).mono ?_; rintro e w6 ⟨he, hc⟩; rw [HE.u] at he; subst he; obtain ⟨hT2, hch⟩ := HS1.u _ _ hc; have HX2 := J (HXx.u.drew.chg hch (fun h => h (.inr rfl))); have HB2 := J (HBx.u.drew.trans (hch.below HBx.u.size (fun j hj h => h (.inl hj)))); obtain ⟨R2, hw2, hs2, hst2⟩ := hT2.right; have HW2 := J hw2; have HS2 := J hst2; have k1 : w6.cell? ⟨wr.heap.size, 0, none⟩ = some (.int .i64 x) ∧ w6.cell? ⟨wr.heap.size, 1, none⟩ = some (.int .i64 y) ∧ w6.cell? ⟨wr.heap.size, 2, none⟩ = some (.int .i64 z) := ⟨HX2.u.here (i := 0) rfl, HX2.u.here (i := 1) rfl, HX2.u.here (i := 2) rfl⟩; clear hc hT2 hch hw2 hs2 hst2) | (go_at_call 9; refine (gloDo x y z HW2.u HOkk.u HFt.u (by have := HLk.u; omega) z0 z1).mono ?_; rintro e w7 ⟨he, hc⟩; rw [HE.u] at he; subst he; obtain ⟨hT3, hch⟩ := HS2.u _ _ hc; have HX3 := J (HX2.u.chg hch (fun h => h (.inr rfl))); have HB3 := J (HB2.u.trans (hch.below HB2.u.size (fun j hj h => h (.inl hj)))); have HT3 := J hT3; have k2 : w7.cell? ⟨wr.heap.size, 0, none⟩ = some (.int .i64 x) ∧ w7.cell? ⟨wr.heap.size, 1, none⟩ = some (.int .i64 y) ∧ w7.cell? ⟨wr.heap.size, 2, none⟩ = some (.int .i64 z) := ⟨HX3.u.here (i := 0) rfl, HX3.u.here (i := 1) rfl, HX3.u.here (i := 2) rfl⟩; clear hc hT3 hch) | (go_at_call 10; refine (sameC _ _ q q2 _ _ _ HT3.u HOk2.u (by have := HLk.u; omega)).mono ?_; rintro e w8 ⟨rfl, hT4, hch⟩; have HT4 := J hT4; have HX4 := J (HX3.u.chg hch (fun h => h (.inr rfl))); have HB4 := J (HB3.u.trans (hch.below HB3.u.size (fun j hj h => h (.inl hj)))); have k3 : w8.cell? ⟨wr.heap.size, 0, none⟩ = some (.int .i64 x) ∧ w8.cell? ⟨wr.heap.size, 1, none⟩ = some (.int .i64 y) ∧ w8.cell? ⟨wr.heap.size, 2, none⟩ = some (.int .i64 z) := ⟨HX4.u.here (i := 0) rfl, HX4.u.here (i := 1) rfl, HX4.u.here (i := 2) rfl⟩; clear hT4 hch))
   all_goals
    have HN := J (show ∃ m', GRun w w8 q q2 m' (k + 1) from ⟨_, HT4.u.mono (fun b hb => .inl hb) (fun _ h => h), HB4.u, (ok_now HOk2.u _).up (by omega), fit_now HFt2.u _⟩)
    clear k0 k1 k2 k3 HT4 HT3 HX4 HX3 HX2 HB4 HB3 HB2 HW2 HS2 HW1 HS1 HE
    go_wp2_with fail
    go_roundw
    case rel => exact ⟨k + 1, by omega, by go_num, HN⟩
    case measure => simp [intOf]; omega
  have hke : k = l.length := by omega
  subst hke
  have HT := J hT; have HBk := J hB; have HOkk := J hok
  clear hT hB hok hfit HK
  go_wp2_with fail
  refine (sameC _ _ q q2 m _ _ HT.u HOkk.u (by have := HL60.u; omega)).mono ?_
  rintro e w8 ⟨rfl, _, hch⟩
  have HF := J (HBk.u.trans (hch.below HBk.u.size (fun j hj h => h hj)))
  clear hch
  go_wp2_with fail
  go_ret
  exact ⟨rfl, HF.u⟩
end Go.Proofs.YtidonhndeohdlaaGreat
