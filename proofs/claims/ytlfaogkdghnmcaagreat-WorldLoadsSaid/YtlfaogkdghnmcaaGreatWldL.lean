/- What pods do is what runs: the plain law of WorldLoads. -/
import Derived.Test.YtlfaogkdghnmcaaGreatWldO
set_option linter.unusedVariables false
set_option linter.unusedSimpArgs false
namespace Go.Proofs.YtlfaogkdghnmcaaGreat
open Go.RowKit
def runsP (id : Int) (r : Tide.Req) : Bool := r.fate == 2 && r.pod == id
def runsAt (b : List Tide.Req) (id : Int) : Int := (b.countP (runsP id) : Nat)
def runN (b : List Tide.Req) : Int := (b.countP (fun r => r.fate == 2) : Nat)
structure LoadsOk (b : List Tide.Req) (f : List Tide.Pod) : Prop where
  load : ∀ p ∈ f, p.load = runsAt b p.id
  there : ∀ r ∈ b, r.fate = 2 → ∃ p ∈ f, p.id = r.pod
  sum : Tide.sumL f = runN b
theorem ids_apart {f : List Tide.Pod} {la most : Int} (h : Tide.Crewed f la most) {i k : Nat} {p q : Tide.Pod} (hp : f[i]? = some p) (hq : f[k]? = some q) (hne : i ≠ k) : p.id ≠ q.id := by
  rcases Nat.lt_or_gt_of_ne hne with c | c
  · have := Tide.up_get h.up c hq hp; omega
  · have := Tide.up_get h.up c hp hq; omega
theorem countP_same {p q : Tide.Req → Bool} {b : List Tide.Req} (f : Tide.Req → Tide.Req) (h : ∀ r ∈ b, p (f r) = q r) : (b.map f).countP p = b.countP q := by
  rw [List.countP_map]
  exact List.countP_congr fun r hr => by rw [Function.comp, h r hr]
theorem count_set {b : List Tide.Req} {k : Nat} {q r : Tide.Req} (p : Tide.Req → Bool) (hk : b[k]? = some q) : (((b.set k r).countP p : Nat) : Int) = ((b.countP p : Nat) : Int) - (if p q then 1 else 0) + (if p r then 1 else 0) := by
  have hl := Tide.get_lt hk
  have e : b[k] = q := by rw [List.getElem?_eq_getElem hl] at hk; exact Option.some.inj hk
  rw [List.countP_set (h := hl), e]
  cases hq : p q
  · cases p r <;> simp
  · have : 0 < b.countP p := List.countP_pos_iff.2 ⟨q, List.mem_of_getElem? hk, hq⟩
    cases p r <;> simp <;> omega
theorem runs_pos {b : List Tide.Req} {r : Tide.Req} (hr : r ∈ b) (h2 : r.fate = 2) : 1 ≤ runsAt b r.pod := by
  have : 0 < b.countP (runsP r.pod) := List.countP_pos_iff.2 ⟨r, hr, by unfold runsP; simp [h2]⟩
  unfold runsAt; omega
theorem loads_calm {b b' : List Tide.Req} {f : List Tide.Pod} (h : LoadsOk b f) (h1 : ∀ id, runsAt b' id = runsAt b id) (h2 : runN b' = runN b) (h3 : ∀ r ∈ b', r.fate = 2 → ∃ q ∈ b, q.fate = 2 ∧ q.pod = r.pod) : LoadsOk b' f :=
  ⟨fun p hp => by rw [h1]; exact h.load p hp, fun r hr e => by
    obtain ⟨q, hq, e1, e2⟩ := h3 r hr e
    obtain ⟨p, hp, e3⟩ := h.there q hq e1
    exact ⟨p, hp, by rw [e3, e2]⟩, by rw [h2]; exact h.sum⟩
/-- a pod that stands there anew with its number and its load -/
theorem loads_set {b : List Tide.Req} {f : List Tide.Pod} {i : Nat} {p q : Tide.Pod} (h : LoadsOk b f) (hp : f[i]? = some p) (h1 : q.id = p.id) (h2 : q.load = p.load) : LoadsOk b (f.set i q) := by
  refine ⟨fun x hx => ?_, fun r hr e => ?_, ?_⟩
  · rcases List.mem_or_eq_of_mem_set hx with hx | rfl
    · exact h.load x hx
    · rw [h1, h2]; exact h.load p (List.mem_of_getElem? hp)
  · obtain ⟨x, hx, e1⟩ := h.there r hr e
    obtain ⟨k, hk⟩ := List.mem_iff_getElem?.1 hx
    by_cases c : k = i
    · subst c; rw [hp] at hk; cases hk
      exact ⟨q, List.mem_of_getElem? (i := k) (by rw [List.getElem?_set_self (Tide.get_lt hp)]), by rw [h1]; exact e1⟩
    · exact ⟨x, List.mem_of_getElem? (i := k) (by rw [List.getElem?_set_ne (Ne.symm c)]; exact hk), e1⟩
  · rw [Tide.sum_set hp, h2]; have := h.sum; omega
theorem loads_erase {b : List Tide.Req} {f : List Tide.Pod} {la most : Int} {i : Nat} {p : Tide.Pod} (hc : Tide.Crewed f la most) (h : LoadsOk b f) (hp : f[i]? = some p) (h0 : p.load = 0) : LoadsOk b (f.eraseIdx i) := by
  refine ⟨fun x hx => h.load x (List.mem_of_mem_eraseIdx hx), fun r hr e => ?_, by rw [Tide.sum_erase hp, h0]; have := h.sum; omega⟩
  obtain ⟨x, hx, e1⟩ := h.there r hr e
  obtain ⟨k, hk⟩ := List.mem_iff_getElem?.1 hx
  by_cases c : k = i
  · subst c; rw [hp] at hk; cases hk
    have := h.load p (List.mem_of_getElem? hp)
    have := runs_pos hr e
    rw [← e1] at this; omega
  · exact ⟨x, List.mem_eraseIdx_iff_getElem?.2 ⟨k, c, hk⟩, e1⟩
theorem loads_step {most : Int} (hm : 0 ≤ most) (x y : Bp) (h1 : Tide.Fair x.b) (h2 : Tide.Crewed x.f x.fl most) (hP : LoadsOk x.b x.f) (k : El most x y) : LoadsOk y.b y.f := by
  cases k with
  | ask b f fl now s n h =>
    have h1 : Tide.Fair b := h1
    have h2 : Tide.Crewed f fl most := h2
    have hP : LoadsOk b f := hP
    show LoadsOk (Tide.askLst b now s n) f
    unfold Tide.askLst
    rw [if_pos h]
    refine loads_calm hP (fun id => ?_) ?_ fun r hr e => ?_
    · unfold runsAt; rw [List.countP_append, List.countP_singleton]; simp [runsP]
    · unfold runN; rw [List.countP_append, List.countP_singleton]; simp
    · rcases List.mem_append.1 hr with hr | hr
      · exact ⟨r, hr, e, rfl⟩
      · simp at hr; subst hr; simp at e
  | late b f fl now t0 t1 =>
    have h1 : Tide.Fair b := h1
    have h2 : Tide.Crewed f fl most := h2
    have hP : LoadsOk b f := hP
    show LoadsOk (Tide.lateLst b (now + 1)) f
    unfold Tide.lateLst
    split
    · have key : ∀ r : Tide.Req, Tide.isLate (now + 1) r = true → r.fate = 1 := fun r hr => by unfold Tide.isLate at hr; rw [Bool.and_eq_true] at hr; simpa using hr.1
      refine loads_calm hP (fun id => ?_) ?_ fun r hr e => ?_
      · unfold runsAt; congr 1
        refine countP_same _ fun r _ => ?_
        unfold Tide.setF; split
        · rename_i hl; unfold runsP; rw [key r hl]; rfl
        · rfl
      · unfold runN; congr 1
        refine countP_same _ fun r _ => ?_
        unfold Tide.setF; split
        · rename_i hl; rw [key r hl]; rfl
        · rfl
      · obtain ⟨q, hq, rfl⟩ := List.mem_map.1 hr
        unfold Tide.setF at e ⊢
        split at e
        · simp at e
        · rename_i hl; rw [if_neg hl]; exact ⟨q, hq, e, rfl⟩
    · exact hP
  | run b f fl now h =>
    have h1 : Tide.Fair b := h1
    have h2 : Tide.Crewed f fl most := h2
    have hP : LoadsOk b f := hP
    obtain ⟨g1, g2⟩ := goes_two h
    obtain ⟨i, p, hp, hid, _, _, hgl⟩ := give_ok g2
    obtain ⟨jj, q, e1, _, e3, _, _, _, e4⟩ := Tide.run_next h1.num g1 (Tide.giveNum f most)
    show LoadsOk (Tide.runLst b _ _) (Tide.giveLst f most)
    rw [e4, hgl, hid]
    have hb : ∀ id, runsAt (b.set jj { q with fate := 2, pod := p.id }) id = runsAt b id + if p.id = id then 1 else 0 := fun id => by
      unfold runsAt
      rw [count_set _ e1, show runsP id q = false by unfold runsP; rw [e3]; rfl]
      have : runsP id { q with fate := 2, pod := p.id } = decide (p.id = id) := by unfold runsP; rw [show ((2 : Int) == 2) = true from rfl, Bool.true_and]; rfl
      rw [this]; simp
    refine ⟨fun x hx => ?_, fun r hr e => ?_, ?_⟩
    · obtain ⟨k, hk⟩ := List.mem_iff_getElem?.1 hx
      by_cases c : k = i
      · subst c
        rw [List.getElem?_set_self (Tide.get_lt hp)] at hk; cases hk
        rw [hb]; have := hP.load p (List.mem_of_getElem? hp); simp; omega
      · rw [List.getElem?_set_ne (Ne.symm c)] at hk
        have := ids_apart h2 hp hk (Ne.symm c)
        rw [hb, if_neg this]; have := hP.load x (List.mem_of_getElem? hk); omega
    · have hin : ∀ z : Tide.Pod, z ∈ f → ∃ y ∈ f.set i { p with load := p.load + 1 }, y.id = z.id := fun z hz => by
        obtain ⟨k, hk⟩ := List.mem_iff_getElem?.1 hz
        by_cases c : k = i
        · subst c; rw [hp] at hk; cases hk
          exact ⟨{ p with load := p.load + 1 }, List.mem_of_getElem? (i := k) (by rw [List.getElem?_set_self (Tide.get_lt hp)]), rfl⟩
        · exact ⟨z, List.mem_of_getElem? (i := k) (by rw [List.getElem?_set_ne (Ne.symm c)]; exact hk), rfl⟩
      rcases List.mem_or_eq_of_mem_set hr with hr | rfl
      · obtain ⟨z, hz, e5⟩ := hP.there r hr e
        obtain ⟨y, hy, e6⟩ := hin z hz
        exact ⟨y, hy, e6.trans e5⟩
      · exact hin p (List.mem_of_getElem? hp)
    · rw [Tide.sum_set hp]
      have h3 := hP.sum
      unfold runN at h3 ⊢
      rw [count_set _ e1, if_neg (show ¬ (q.fate == 2) = true by rw [e3]; simp), if_pos (show (({ q with fate := 2, pod := p.id } : Tide.Req).fate == 2) = true from rfl)]
      show _ - p.load + (p.load + 1) = _; omega
  | done b f fl now n h =>
    have h1 : Tide.Fair b := h1
    have h2 : Tide.Crewed f fl most := h2
    have hP : LoadsOk b f := hP
    show LoadsOk (Tide.doneLst b n) (Tide.podDoneLst f (Tide.doneNum b n))
    have h' := h
    unfold Tide.doneErr at h'
    cases hq : Tide.reqAt b n with
    | none => rw [hq] at h'; simp at h'
    | some q =>
      rw [hq] at h'
      have hf2 : q.fate = 2 := by
        simp only at h'
        split at h'
        · assumption
        · cases h'
      have hgq := Tide.reqAt_get hq
      have hqm : q ∈ b := List.mem_of_getElem? hgq
      have ed : Tide.doneLst b n = b.set (n - 1).toNat { q with fate := 3 } := by unfold Tide.doneLst; rw [hq]; simp only; rw [if_pos hf2]
      have en : Tide.doneNum b n = q.pod := by unfold Tide.doneNum; rw [hq]; simp only; rw [if_pos hf2]
      rw [ed, en]
      generalize (n - 1).toNat = jj at hgq
      obtain ⟨p0, hp0, e0⟩ := hP.there q hqm hf2
      have hfind : ∃ i p, f[i]? = some p ∧ p.id = q.pod ∧ Tide.findP f q.pod = some i := by
        cases hfp : Tide.findP f q.pod with
        | none =>
          obtain ⟨k, hk⟩ := List.mem_iff_getElem?.1 hp0
          have := Tide.firstAt_miss hfp k p0 hk
          unfold Tide.podIs at this; simp [e0] at this
        | some i =>
          obtain ⟨p, hp, hid⟩ := Tide.findP_some hfp
          exact ⟨i, p, hp, hid, rfl⟩
      obtain ⟨i, p, hp, hid, hfp⟩ := hfind
      have hload := hP.load p (List.mem_of_getElem? hp)
      have hpos := runs_pos hqm hf2
      rw [hid] at hload
      have hne : p.load ≠ 0 := by omega
      have hb : ∀ id, runsAt (b.set jj { q with fate := 3 }) id = runsAt b id - if q.pod = id then 1 else 0 := fun id => by
        unfold runsAt
        rw [count_set _ hgq, show runsP id { q with fate := 3 } = false by unfold runsP; rfl]
        have : runsP id q = decide (q.pod = id) := by unfold runsP; rw [hf2, show ((2 : Int) == 2) = true from rfl, Bool.true_and]; rfl
        rw [this]; simp
      have hbn : runN (b.set jj { q with fate := 3 }) = runN b - 1 := by
        unfold runN
        rw [count_set _ hgq, if_pos (show (q.fate == 2) = true by rw [hf2]; rfl), if_neg (show ¬ (({ q with fate := 3 } : Tide.Req).fate == 2) = true by simp)]
        omega
      have hrs : ∀ r ∈ b.set jj { q with fate := 3 }, r.fate = 2 → r ∈ b := fun r hr e => by
        rcases List.mem_or_eq_of_mem_set hr with hr | rfl
        · exact hr
        · simp at e
      unfold Tide.podDoneLst
      rw [hfp]; simp only [hp]
      rw [if_neg hne]
      by_cases c : p.state = 4 ∧ p.load - 1 = 0
      · rw [if_pos c]
        refine ⟨fun x hx => ?_, fun r hr e => ?_, by rw [Tide.sum_erase hp, hbn]; have := hP.sum; omega⟩
        · obtain ⟨k, hki, hk⟩ := List.mem_eraseIdx_iff_getElem?.1 hx
          have := ids_apart h2 hp hk (Ne.symm hki)
          rw [hb, if_neg (by omega)]; have := hP.load x (List.mem_of_getElem? hk); omega
        · obtain ⟨z, hz, e5⟩ := hP.there r (hrs r hr e) e
          obtain ⟨k, hk⟩ := List.mem_iff_getElem?.1 hz
          by_cases ck : k = i
          · subst ck; rw [hp] at hk; cases hk
            have := runs_pos hr e
            rw [hb, if_pos (by omega), ← e5, hid] at this; omega
          · exact ⟨z, List.mem_eraseIdx_iff_getElem?.2 ⟨k, ck, hk⟩, e5⟩
      · rw [if_neg c]
        refine ⟨fun x hx => ?_, fun r hr e => ?_, by rw [Tide.sum_set hp, hbn]; have := hP.sum; simp only; omega⟩
        · obtain ⟨k, hk⟩ := List.mem_iff_getElem?.1 hx
          by_cases ck : k = i
          · subst ck
            rw [List.getElem?_set_self (Tide.get_lt hp)] at hk; cases hk
            rw [hb, if_pos hid.symm]; show p.load - 1 = runsAt b p.id - 1; rw [hid]; omega
          · rw [List.getElem?_set_ne (Ne.symm ck)] at hk
            have := ids_apart h2 hp hk (Ne.symm ck)
            rw [hb, if_neg (by omega)]; have := hP.load x (List.mem_of_getElem? hk); omega
        · obtain ⟨z, hz, e5⟩ := hP.there r (hrs r hr e) e
          obtain ⟨k, hk⟩ := List.mem_iff_getElem?.1 hz
          by_cases ck : k = i
          · subst ck; rw [hp] at hk; cases hk
            exact ⟨{ p with load := p.load - 1 }, List.mem_of_getElem? (i := k) (by rw [List.getElem?_set_self (Tide.get_lt hp)]), e5⟩
          · exact ⟨z, List.mem_of_getElem? (i := k) (by rw [List.getElem?_set_ne (Ne.symm ck)]; exact hk), e5⟩
  | crash b f fl now n h =>
    have h1 : Tide.Fair b := h1
    have h2 : Tide.Crewed f fl most := h2
    have hP : LoadsOk b f := hP
    show LoadsOk (Tide.lostLst b n) (Tide.crashLst f n)
    have hcr := h2.crash n
    unfold Tide.crashErr at h
    cases hfp : Tide.findP f n with
    | none => rw [hfp] at h; simp at h
    | some i =>
      obtain ⟨p, hp, hid⟩ := Tide.findP_some hfp
      have ec : Tide.crashLst f n = f.eraseIdx i := by unfold Tide.crashLst; rw [hfp]
      have en : Tide.crashNum f n = p.load := by unfold Tide.crashNum Tide.loadAt; rw [hfp]; simp [hp]
      rw [ec, en] at hcr
      rw [ec]
      have hload := hP.load p (List.mem_of_getElem? hp)
      have key : ∀ r : Tide.Req, Tide.isLost n r = runsP n r := fun r => rfl
      have hb : ∀ id, id ≠ n → runsAt (Tide.lostLst b n) id = runsAt b id := fun id hne => by
        unfold runsAt Tide.lostLst; congr 1
        refine countP_same _ fun r _ => ?_
        unfold Tide.setF; split
        · rename_i hl
          rw [key] at hl; unfold runsP at hl; rw [Bool.and_eq_true] at hl
          have e1 : r.pod = n := by simpa using hl.2
          unfold runsP; rw [e1]; simp; intro _ e; exact absurd e.symm hne
        · rfl
      have hbn : runN (Tide.lostLst b n) = runN b - runsAt b n := by
        unfold runN runsAt Tide.lostLst
        have : ∀ l : List Tide.Req, (((l.map (Tide.setF (Tide.isLost n) 5)).countP (fun r => r.fate == 2) : Nat) : Int) = ((l.countP (fun r => r.fate == 2) : Nat) : Int) - ((l.countP (runsP n) : Nat) : Int) := by
          intro l
          induction l with
          | nil => rfl
          | cons a l ih =>
            simp only [List.map_cons, List.countP_cons]
            have hle : l.countP (runsP n) ≤ l.countP (fun r => r.fate == 2) := List.countP_mono_left fun r _ hr => by unfold runsP at hr; rw [Bool.and_eq_true] at hr; exact hr.1
            cases ha : runsP n a
            · rw [show Tide.setF (Tide.isLost n) 5 a = a by unfold Tide.setF; rw [key, ha]; rfl]
              by_cases c : (a.fate == 2) = true
              · rw [if_pos c, if_neg (by simp)]; omega
              · rw [if_neg c, if_neg (by simp)]; omega
            · have h3 := ha
              unfold runsP at h3; rw [Bool.and_eq_true] at h3
              rw [show (Tide.setF (Tide.isLost n) 5 a).fate = 5 by unfold Tide.setF; rw [key, ha]; rfl, if_neg (by decide), if_pos h3.1, if_pos rfl]
              omega
        exact this b
      refine ⟨fun x hx => ?_, fun r hr e => ?_, ?_⟩
      · obtain ⟨k, hki, hk⟩ := List.mem_eraseIdx_iff_getElem?.1 hx
        have := ids_apart h2 hp hk (Ne.symm hki)
        rw [hb _ (by omega)]; exact hP.load x (List.mem_of_getElem? hk)
      · unfold Tide.lostLst at hr
        obtain ⟨q, hq, rfl⟩ := List.mem_map.1 hr
        unfold Tide.setF at e ⊢
        split at e
        · simp at e
        · rename_i hl
          rw [if_neg hl]
          obtain ⟨z, hz, e5⟩ := hP.there q hq e
          obtain ⟨k, hk⟩ := List.mem_iff_getElem?.1 hz
          by_cases ck : k = i
          · subst ck; rw [hp] at hk; cases hk
            exact absurd (by rw [key]; unfold runsP; simp [e]; omega) hl
          · exact ⟨z, List.mem_eraseIdx_iff_getElem?.2 ⟨k, ck, hk⟩, e5⟩
      · rw [hcr.2.1, hbn, hload, hid]; have := hP.sum; omega
  | turn b f fl now n src dst h =>
    have h1 : Tide.Fair b := h1
    have h2 : Tide.Crewed f fl most := h2
    have hP : LoadsOk b f := hP
    show LoadsOk b (Tide.turnLst f n src dst)
    unfold Tide.turnLst
    cases hfp : Tide.findP f n with
    | none => exact hP
    | some i =>
      obtain ⟨p, hp, hid⟩ := Tide.findP_some hfp
      simp only [hp]
      split
      · exact loads_set hP hp rfl rfl
      · exact hP
  | scale b f fl now n =>
    have h1 : Tide.Fair b := h1
    have h2 : Tide.Crewed f fl most := h2
    have hP : LoadsOk b f := hP
    show LoadsOk b (Tide.scaleLst f fl n)
    refine Tide.scale_inv (fun f => LoadsOk b f) h2 hm n ?_ (fun f la i p hc hp hi h0 => loads_erase hc hp hi h0) (fun f la i p hc hp hi h0 => loads_set hp hi rfl rfl)
    refine ⟨fun p hp => ?_, fun r hr e => ?_, by rw [Tide.sum_more]; exact hP.sum⟩
    · rcases List.mem_append.1 hp with hp | hp
      · exact hP.load p hp
      · have hn := Tide.newPods_mem hp
        have : b.countP (runsP p.id) = 0 := List.countP_eq_zero.2 fun r hr hrp => by
          unfold runsP at hrp; rw [Bool.and_eq_true] at hrp
          obtain ⟨z, hz, e5⟩ := hP.there r hr (by simpa using hrp.1)
          have := (h2.ids z hz).2
          have e6 : r.pod = p.id := by simpa using hrp.2
          omega
        unfold runsAt; rw [this]; omega
    · obtain ⟨z, hz, e5⟩ := hP.there r hr e
      exact ⟨z, List.mem_append_left _ hz, e5⟩
theorem loads_do {m : Wo} {j : Nat} (h : m.ok j) (hP : LoadsOk m.b m.f) (k a n : Int) : LoadsOk (doW m k a n).b (doW m k a n).f :=
  do_inv (fun x => LoadsOk x.b x.f) (fun x y h1 h2 hp k => loads_step (by have := h.most0; omega) x y h1 h2 hp k) h hP k a n
theorem loads_new : LoadsOk [] [] := ⟨fun p hp => (by cases hp), fun r hr => (by cases hr), rfl⟩
end Go.Proofs.YtlfaogkdghnmcaaGreat
