/- The contract of the reference's cronItem. -/
import Derived.Test.YthelnkoohbnjpaaDoorCrnI
import Derived.Test.YthelnkoohbnjpaaDoorRdpC
import Derived.Test.YthelnkoohbnjpaaDoorZTxt
set_option linter.unusedVariables false
set_option linter.unusedSimpArgs false
namespace Go.Proofs.YthelnkoohbnjpaaDoor
open Go.RowKit
set_option linter.unusedVariables false
def WaysPost (c : UInt8) (s : ByteArray) (w : World) (e : Ending) (w' : World) : Prop := ∃ (g cap n : Nat), e = .returned (.slice (some ⟨g, 0, none⟩) n cap) ∧ g < w'.heap.size ∧ w'.cell? ⟨g, 0, none⟩ = some (.string (Tide.cutX c s)) ∧ Below w.heap.size w w' ∧ n ≤ cap ∧ cap ≤ maxLen ∧ n ≤ s.size + 1 ∧
  ((n = 1 ∧ Tide.cutZ c s = false) ∨ (n = 2 ∧ Tide.cutZ c s = true ∧ w'.cell? ⟨g, 1, none⟩ = some (.string (Tide.cutY c s))) ∨ (2 < n ∧ Tide.cutZ c s = true ∧ c ∈ (Tide.cutY c s).data.toList))
theorem refWays (c : UInt8) (s : ByteArray) (hs : s.size ≤ 1000000) (w : World) : Calls Tryd.prog 29 #[.string s, .int .u8 (c.toNat : Int)] w (WaysPost c s w) :=
  (refPieces c s hs w).mono fun e w' h => by
    obtain ⟨v, ps, rfl, hd, hr, hb⟩ := h
    have hlen : ps.length = (Tide.pieces c s.data.toList).length := by rw [← hd, List.length_map]
    have hpos : 0 < ps.length := by rw [hlen]; exact Tide.pieces_pos _ _
    have hfew : ps.length ≤ s.size + 1 := by
      rw [hlen, Tide.pieces_many, Tide.ba_size]
      have := List.count_le_length (a := c) (l := s.data.toList)
      omega
    obtain ⟨g, cap, rfl, hg, h1, h2, hrow⟩ := hr.form hpos
    have hcell : ∀ {i : Nat} {x : ByteArray}, ps[i]? = some x → w'.cell? ⟨g, i, none⟩ = some (.string x) := fun {i x} hx => hrow.cell (by rw [List.getElem?_map, hx]; rfl)
    refine ⟨g, cap, ps.length, rfl, hrow.inside, ?_, hb, h1, h2, hfew, ?_⟩
    · rcases Tide.pieces_ways c s ps hd with ⟨_, e⟩ | ⟨_, e⟩ | ⟨_, _, _, e⟩
      · exact hcell (by rw [e]; rfl)
      · exact hcell (by rw [e]; rfl)
      · exact hcell e
    · rcases Tide.pieces_ways c s ps hd with ⟨z, e⟩ | ⟨z, e⟩ | ⟨z, l, m, e⟩
      · exact .inl ⟨by rw [e]; rfl, z⟩
      · exact .inr (.inl ⟨by rw [e]; rfl, z, hcell (by rw [e]; rfl)⟩)
      · exact .inr (.inr ⟨l, z, m⟩)
theorem refDigits' (s : ByteArray) (most : Nat) (hs : s.size ≤ 1000000) (hm1 : 1 ≤ most) (hm2 : most ≤ 8) (w : World) : Calls Tryd.prog 56 #[.string s, .int .i64 most] w fun e w' => e = .returned (.int .i64 (Tide.numL most s.data.toList)) ∧ w' = w :=
  (refDigits s most hs hm1 hm2 w).mono fun _ _ ⟨a, b⟩ => ⟨a, b.symm⟩
def ItemPost (L : List Nat) (w : World) (e : Ending) (w' : World) : Prop := ∃ v, e = .returned v ∧ Tide.OwnRow (fun b => w.heap.size ≤ b) w' 3 1 v L.length (L.map fun (n : Nat) => Value.int .i64 (n : Int)) ∧ Below w.heap.size w w'
theorem item_nil {L : List Nat} {w w' : World} (h : L = []) (hb : Below w.heap.size w w') : ItemPost L w (.returned (.slice none 0 0)) w' := by
  subst h; exact ⟨_, rfl, Tide.OwnRow.nil _ _ _ _, hb⟩
def ItemMid (w wr : World) (v : Value) (D : List Nat) : Prop := Tide.OwnRow (fun b => w.heap.size ≤ b) wr 3 1 v D.length (D.map fun (n : Nat) => Value.int .i64 (n : Int)) ∧ Below w.heap.size w wr
theorem itemInfo : (Tryd.prog.info? 3).map (fun i => (i.zero, i.size, i.bytes)) = some (some (.int .i64 0), 1, 8) := by kernel_rfl
set_option maxRecDepth 100000 in
set_option maxHeartbeats 3200000 in
theorem refItem (first last : Nat) (s : ByteArray) (w : World) (hs : s.size ≤ 1000000) (hl1 : first ≤ 60) (hl : last ≤ 60) :
    Calls Tryd.prog 31 #[.string s, .int .i64 first, .int .i64 last] w (ItemPost (Tide.itemN first last s) w) := by
  obtain ⟨ii, hif, hz0, hz1, hz2⟩ := info_split itemInfo
  have hx := Tide.cutX_size 47 s; have hy := Tide.cutY_size 47 s
  have HX := Lib.hid (show (Tide.cutX 47 s).size ≤ 1000000 by omega)
  have HY := Lib.hid (show (Tide.cutY 47 s).size ≤ 1000000 by omega)
  have HS := Lib.hid hs
  have f0 : (0 : Int) ≤ (first : Int) := by omega
  have f3 : (first : Int) ≤ 60 := by omega
  have f1 : (0 : Int) ≤ (last : Int) := by omega
  have f2 : (last : Int) ≤ 60 := by omega
  clear hx hy hs
  go_enter Tryd.func31, Tryd.ntmps31
  go_wp2_with fail
  refine (refWays 47 s HS.out _).mono ?_
  rintro e w1 ⟨g, cap, n, rfl, hg, hc0, hb1, hn, hcap, hfew, hways⟩
  have HB := Lib.hid hb1
  have n0 : (0 : Int) ≤ (n : Int) := by omega
  have n1 : (n : Int) ≤ 1000001 := by have := HS.out; omega
  obtain ⟨t, HT⟩ : ∃ t, Hid (Tide.cutZ 47 s = t) := ⟨_, Lib.hid rfl⟩
  clear hb1 hfew
  by_cases hn2 : 2 < n
  · have i1 : (2 : Int) < (n : Int) := by omega
    have HF := Lib.hid (show ItemPost (Tide.itemN first last s) w (.returned (.slice none 0 0)) w1 from item_nil (by
      rcases hways with ⟨h, _⟩ | ⟨h, _⟩ | ⟨_, h1, h2⟩
      · omega
      · omega
      · exact Tide.itemN_ev (by rw [Tide.itEv_more h1 h2]; decide)) HB.out)
    clear hways
    go_wp2_with fail
    go_ret
    exact HF.out
  have i1 : (n : Int) ≤ 2 := by omega
  have HW := Lib.hid (show (n = 1 ∧ Tide.cutZ 47 s = false) ∨ (n = 2 ∧ Tide.cutZ 47 s = true ∧ w1.cell? ⟨g, 1, none⟩ = some (.string (Tide.cutY 47 s))) by
    rcases hways with h | h | ⟨h, _⟩
    · exact .inl h
    · exact .inr h
    · omega)
  clear hways hn2
  go_upto_if 21 with (fail)
  go_cut [8] (fun x wy => ∃ ev : Int, x = .int .i64 ev ∧ Hid (Tide.itEv s = ev) ∧ 1 ≤ ev ∧ ev ≤ 100 ∧ w1 = wy)
  case first =>
    obtain ⟨rfl, hz⟩ | ⟨rfl, hz, hc1⟩ := HW.out
    · have HF := Lib.hid (show Tide.itEv s = 1 from if_neg (by rw [hz]; simp))
      clear hz HW
      go_wp2_with fail
      go_meet
      exact ⟨1, rfl, HF, by omega, by omega, rfl⟩
    · have h1 := numL2 (Tide.cutY 47 s).data.toList
      have HF := Lib.hid (show Tide.itEv s = Tide.numL 2 (Tide.cutY 47 s).data.toList from if_pos hz)
      clear hz HW
      go_wp2_with fail
      refine (refDigits _ 2 HY.out (by decide) (by decide) _).mono ?_
      rintro e w4 ⟨rfl, rfl⟩
      generalize Tide.numL 2 (Tide.cutY 47 s).data.toList = ev at HF h1 ⊢
      by_cases h2 : ev < 1
      · have HG := Lib.hid (show ItemPost (Tide.itemN first last s) w (.returned (.slice none 0 0)) w1 from item_nil (Tide.itemN_ev (by rw [HF.out]; exact h2)) HB.out)
        go_wp2_with fail
        go_ret
        exact HG.out
      · have h3 : 1 ≤ ev := by omega
        go_wp2_with fail
        go_meet
        exact ⟨ev, rfl, HF, h3, h1.2, rfl⟩
  case rest =>
    obtain ⟨ev, rfl, HV, e1, e2, rfl⟩ := hcut
    have npos : 0 < n := by rcases HW.out with ⟨h, _⟩ | ⟨h, _⟩ <;> omega
    have npos2 : (0 : Int) < (n : Int) := by omega
    go_upto_if 33 with (fail)
    go_cut [9, 10] (fun x y wy => ∃ lo hi : Int, x = .int .i64 lo ∧ y = .int .i64 hi ∧ Hid (Ends first last s lo hi) ∧ Hid (Below w.heap.size w wy))
    case first =>
      by_cases hst : Tide.cutX 47 s = Tide.star
      · have HF := Lib.hid (show Ends first last s first last from ⟨if_pos hst, if_pos hst, by unfold Tide.itBad; rw [hst]; rfl, by omega, by omega, by omega, by omega⟩)
        rw [eq_star hst, Bool.not_true]
        clear hst
        go_wp2_with fail
        go_meet
        exact ⟨_, _, rfl, rfl, HF, HB⟩
      · rw [ne_star hst, Bool.not_false]
        have hx1 := Tide.cutX_size 45 (Tide.cutX 47 s); have hx2 := Tide.cutY_size 45 (Tide.cutX 47 s)
        have HX1 := Lib.hid (show (Tide.cutX 45 (Tide.cutX 47 s)).size ≤ 1000000 by have := HX.out; omega)
        have HX2 := Lib.hid (show (Tide.cutY 45 (Tide.cutX 47 s)).size ≤ 1000000 by have := HX.out; omega)
        have HST := Lib.hid hst
        clear hst hx1 hx2
        go_wp2_with fail
        refine (refWays 45 (Tide.cutX 47 s) HX.out _).mono ?_
        rintro e w2 ⟨g2, cap2, m, rfl, hg2, hd0, hb2, hm, hcap2, hfew2, hways2⟩
        have HB2 := Lib.hid (HB.out.trans (hb2.mono HB.out.size))
        clear hb2 hfew2
        obtain ⟨rfl, z⟩ | ⟨rfl, z, hd1⟩ | ⟨hm2, z, hmem⟩ := hways2
        · obtain ⟨rfl, hz⟩ | ⟨rfl, hz, hc1⟩ := HW.out
          · have h1 := numL2 (Tide.cutX 45 (Tide.cutX 47 s)).data.toList
            have HF := Lib.hid (show Ends first last s (Tide.numL 2 (Tide.cutX 45 (Tide.cutX 47 s)).data.toList) (Tide.numL 2 (Tide.cutX 45 (Tide.cutX 47 s)).data.toList) from ⟨if_neg HST.out, by unfold Tide.itHi; rw [if_neg HST.out, if_neg (by rw [z]; simp)], by unfold Tide.itBad; rw [hz]; simp, h1.1, h1.2, h1.1, h1.2⟩)
            have HDg := Lib.hid (fun W => refDigits' (Tide.cutX 45 (Tide.cutX 47 s)) 2 HX1.out (by decide) (by decide) W)
            clear hz z
            go_wp2_with fail
            go_quiet ((go_at_call 56; exact Calls.quiet_of_same (HDg.out _)))
            generalize Tide.numL 2 (Tide.cutX 45 (Tide.cutX 47 s)).data.toList = lo at HF h1 ⊢
            go_wp2_with fail
            go_meet
            exact ⟨_, _, rfl, rfl, HF, Lib.hid (below_drewN HB2.out _)⟩
          · have HF := Lib.hid (show ItemPost (Tide.itemN first last s) w (.returned (.slice none 0 0)) w2 from item_nil (Tide.itemN_bad (by unfold Tide.itBad; rw [z, hz]; simp [HST.out])) HB2.out)
            clear hz z
            go_wp2_with fail
            go_ret
            exact HF.out
        · have h1 := numL2 (Tide.cutX 45 (Tide.cutX 47 s)).data.toList; have h2 := numL2 (Tide.cutY 45 (Tide.cutX 47 s)).data.toList
          have HF := Lib.hid (show Ends first last s (Tide.numL 2 (Tide.cutX 45 (Tide.cutX 47 s)).data.toList) (Tide.numL 2 (Tide.cutY 45 (Tide.cutX 47 s)).data.toList) from ⟨if_neg HST.out, by unfold Tide.itHi; rw [if_neg HST.out, if_pos z], by unfold Tide.itBad; rw [z]; simp, h1.1, h1.2, h2.1, h2.2⟩)
          have s1 := HX1.out; have s2 := HX2.out
          clear z
          go_wp2_with fail
          go_quiet ((go_at_call 56; exact Calls.quiet_of_same (refDigits' _ 2 (by assumption) (by decide) (by decide) _)))
          generalize Tide.numL 2 (Tide.cutX 45 (Tide.cutX 47 s)).data.toList = lo at HF h1 ⊢
          generalize Tide.numL 2 (Tide.cutY 45 (Tide.cutX 47 s)).data.toList = hi at HF h2 ⊢
          go_wp2_with fail
          go_meet
          exact ⟨_, _, rfl, rfl, HF, Lib.hid (below_drewN HB2.out _)⟩
        · have HF := Lib.hid (show ItemPost (Tide.itemN first last s) w (.returned (.slice none 0 0)) w2 from item_nil (Tide.itemN_more (by omega) HST.out z hmem) HB2.out)
          have j1 : (2 : Int) < (m : Int) := by omega
          clear z hmem
          go_wp2_with fail
          go_ret
          exact HF.out
    case rest =>
      obtain ⟨lo, hi, rfl, rfl, HE, HB3⟩ := hcut
      have b1 := HE.out.b1; have b2 := HE.out.b2; have b3 := HE.out.b3; have b4 := HE.out.b4
      have HI := Lib.hid (Tide.itemN_else HE.out.bad HE.out.low HE.out.high HV.out)
      have HZ := Lib.hid (fun h => (HI.out.trans (Tide.spread_none h) : Tide.itemN (first : Int) (last : Int) s = []))
      by_cases a1 : lo < first
      · have HF := Lib.hid (item_nil (HZ.out (.inl a1)) HB3.out)
        go_wp2_with fail
        go_ret
        exact HF.out
      by_cases a2 : (last : Int) < hi
      · have HF := Lib.hid (item_nil (HZ.out (.inr (.inl a2))) HB3.out)
        have a3 : (first : Int) ≤ lo := by omega
        go_wp2_with fail
        go_ret
        exact HF.out
      by_cases a3 : hi < lo
      · have HF := Lib.hid (item_nil (HI.out.trans (Tide.spread_back a3)) HB3.out)
        have a4 : (first : Int) ≤ lo := by omega
        have a5 : hi ≤ (last : Int) := by omega
        go_wp2_with fail
        go_ret
        exact HF.out
      have a4 : (first : Int) ≤ lo := by omega
      have a5 : hi ≤ (last : Int) := by omega
      have a6 : lo ≤ hi := by omega
      have HL := Lib.hid (HI.out.trans (Tide.spread_some a4 a5 e1))
      have HLen := Lib.hid (Tide.ticksF_len 100 lo hi ev)
      have HR := Lib.hid (show ItemRun 100 (Tide.ticksF 100 lo hi ev) hi ev lo [] from ⟨rfl, by omega⟩)
      clear a1 a2 a3 HI HZ
      generalize Tide.ticksF 100 lo hi ev = L at HL HLen HR
      go_wp2_with fail
      go_loopw [12, 13] (fun x y wr => ∃ (f n : Nat) (D : List Nat), y = .int .i64 n ∧ n ≤ 160 ∧ f ≤ 100 ∧ Hid (ItemRun f L hi ev n D) ∧ Hid (ItemMid w wr x D)) (fun _ y _ => 61 - (intOf y).toNat)
      case atStart =>
        obtain ⟨k, rfl⟩ := Int.eq_ofNat_of_zero_le (show 0 ≤ lo by omega)
        exact ⟨100, k, [], rfl, by omega, by omega, HR, Lib.hid ⟨Tide.OwnRow.nil _ _ _ _, HB3.out⟩⟩
      case round =>
        obtain ⟨f, n, D, rfl, n2, nf, HR1, HK⟩ := hrel
        obtain ⟨h1, h2⟩ := HK.out
        obtain ⟨A, cap', rfl, _, _, _⟩ := h1.slice
        have n3 : (0 : Int) ≤ (n : Int) := by omega
        by_cases hlt : (n : Int) ≤ hi
        · obtain ⟨g', hg', hn'⟩ := HR1.out.more hlt e1
          have HN := Lib.hid hn'
          have hdl : D.length ≤ 100 := by
            have := congrArg List.length HR1.out.1
            rw [List.length_append] at this
            have := HLen.out; omega
          have HO := Lib.hid (h1.alloc (.cells #[.int .i64 (n : Int)] 3))
          have HBB := Lib.hid (h2.alloc h2.size (.cells #[.int .i64 (n : Int)] 3))
          have hm3 := Lib.hid (show D.length + 1 ≤ maxLen by simp only [maxLen]; omega)
          have hm4 := Lib.hid (show (D.length + 1) * 8 ≤ 140737488355328 by omega)
          clear h1 h2 HK hn' HR1 hdl
          go_wp2_with (at_builtin; refine wpList_append_lies _ (by rfl) (.tmp 82) (.tmp 84) 69 (by rfl) 0 3 ii (.int .i64 0) 1 8 Tryd.underlying69 hif hz0 hz1 hz2 rfl (by decide) (.slice A D.length cap') _ _ rfl HO.out.owns ⟨wr.heap.size, 0, none⟩ 1 1 [.int .i64 (n : Int)] rfl rfl (Tide.new_one rfl) (by simp [Value.oneCell']) (by decide) hm3.out hm4.out (Nat.zero_le _) _ rfl ?_)
          intro b2 cap2 w5 hown hg ho hlt2
          obtain ⟨r1, r2⟩ := HO.out.app hown hg (ho.imp id (fun e => e.trans (by simp))) hlt2
          obtain ⟨j, hj⟩ := Int.eq_ofNat_of_zero_le (show 0 ≤ (n : Int) + ev by omega)
          rw [hj] at HN
          have HNx := Lib.hid (show ItemMid w w5 (.slice (some ⟨b2, 0, none⟩) (D.length + 1) cap2) (D ++ [(n : Int).toNat]) from ⟨by
            rw [List.length_append, List.map_append]
            exact r1.mono (fun b _ hb => by
              have := HBB.out.size
              rcases hb with hb | hb
              · exact hb
              · omega), HBB.out.trans (r2.below HBB.out.size (fun b hb h => by omega))⟩)
          have hlen : (D ++ [(n : Int).toNat]).length = D.length + 1 := by rw [List.length_append]; rfl
          clear hown hg ho hlt2 r1 r2 HO HBB
          go_wp2_with fail
          go_roundw
          case rel => exact ⟨g', j, D ++ [(n : Int).toNat], by rw [← hj], by omega, by omega, HN, HNx⟩
          case measure => simp [intOf]; omega
        · have hke : hi < (n : Int) := by omega
          have HF := Lib.hid (show ItemPost (Tide.itemN first last s) w (.returned (.slice A D.length cap')) wr from by
            have e := HR1.out.done hke
            rw [HL.out, ← e]
            exact ⟨_, rfl, h1, h2⟩)
          clear h1 h2 HK HR1
          go_wp2_with fail
          go_ret
          exact HF.out
end Go.Proofs.YthelnkoohbnjpaaDoor
