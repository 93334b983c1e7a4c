/- The contract of the reference's Plan. -/
import Derived.Test.YtidonhndeohdlaaGreatWl16
import Derived.Test.YtidonhndeohdlaaGreatWl09
set_option linter.unusedVariables false
set_option linter.unusedSimpArgs false
set_option maxRecDepth 100000
set_option maxHeartbeats 12800000
namespace Go.Proofs.YtidonhndeohdlaaGreat
open Go.RowKit
theorem refInW (n lo hi : Int) (w : World) : Calls Tryz.prog 6 #[.int .i64 n, .int .i64 lo, .int .i64 hi] w fun e w' => e = .returned (.bool (wiB n lo hi)) ∧ w = w' := refIn n lo hi w
def nameUp (s : ByteArray) (k : Nat) : Bool := wiB s.size 1 16 && (List.range k).all (fun q => byteB (byteAt s q))
theorem nameUp_zero (s : ByteArray) : nameUp s 0 = wiB s.size 1 16 := by unfold nameUp; simp
theorem nameUp_next (s : ByteArray) (k : Nat) : nameUp s (k + 1) = (nameUp s k && byteB (byteAt s k)) := by
 unfold nameUp
 rw [List.range_succ, List.all_append, List.all_cons, List.all_nil, Bool.and_true, Bool.and_assoc]
theorem nameUp_all (s : ByteArray) : nameUp s s.size = nameOk s := by
 unfold nameUp
 cases h : (List.range s.size).all (fun q => byteB (byteAt s q)) with
 | true =>
  rw [List.all_eq_true] at h
  rw [name_good fun k hk => h k (List.mem_range.2 hk), Bool.and_true]
 | false =>
  rw [List.all_eq_false] at h
  obtain ⟨k, hk, hb⟩ := h
  rw [name_bad (List.mem_range.1 hk) (by simpa using hb), Bool.and_false]
def pl1 (mn mx poll cool tol back after shift : Int) : Bool := wiB mn 0 50 && (wiB mx 1 50 && (decide (mn ≤ mx) && (wiB poll 1 100000 && (wiB cool 1 100000 && (wiB tol 0 1000 && (wiB back 0 50 && (wiB after 0 100 && wiB shift (-900) 900)))))))
def pc1 (a b c d : Int) : Bool := wiB a 0 100000 && (wiB d 0 100000 && (wiB b 0 50 && wiB c 0 1000))
theorem pc1_is (a b c d : Int) : pc1 a b c d = paceOk ⟨a, b, c, d⟩ := by
 unfold pc1 paceOk
 cases wiB a 0 100000 <;> cases wiB b 0 50 <;> cases wiB c 0 1000 <;> cases wiB d 0 100000 <;> rfl
theorem mx_is (mn mx : Int) : wiB mx (max 1 mn) 50 = (wiB mx 1 50 && decide (mn ≤ mx)) := by
 rw [Bool.eq_iff_iff, Bool.and_eq_true, wiB_iff, wiB_iff, decide_eq_true_eq]
 omega
theorem nums_is (name : ByteArray) (mn mx poll cool tol back after shift u0 u1 u2 u3 d0 d1 d2 d3 : Int) (ts : List Trg) : (⟨name, mn, mx, poll, cool, tol, back, after, shift, ⟨u0, u1, u2, u3⟩, ⟨d0, d1, d2, d3⟩, ts⟩ : Pln).nums = (pl1 mn mx poll cool tol back after shift && (pc1 u0 u1 u2 u3 && pc1 d0 d1 d2 d3)) := by
 unfold Pln.nums pl1
 rw [pc1_is, pc1_is, mx_is]
 simp only [Bool.and_assoc]
structure RpS (w0 W : World) (g : Nat) (cs : Array Value) (A : Option Addr) (cap : Nat) (ts : List Trg) : Prop where
 at_ : G.At W g 26 cs
 row : G.ListIn W 17 Trg.enc (.slice A ts.length cap) ts
 below : Below w0.heap.size w0 W
section
variable {w0 W W' : World} {g : Nat} {cs : Array Value} {A : Option Addr} {cap : Nat} {ts : List Trg}
theorem RpS.next (h : RpS w0 W g cs A cap ts) (hb : Below W.heap.size W W') : RpS w0 W' g cs A cap ts :=
 ⟨h.at_.below hb h.at_.inside, h.row.below hb (Nat.le_refl _), h.below.trans (hb.mono h.below.size)⟩
theorem RpS.alloc (h : RpS w0 W g cs A cap ts) (o : Obj) : RpS w0 (W.alloc o) g cs A cap ts := h.next ((Below.refl _ _).alloc (Nat.le_refl _) o)
end
theorem pace_info : (Tryz.prog.info? 23).map (fun i => (i.zero, i.size)) = some (some (.agg #[.int .i64 0, .int .i64 0, .int .i64 0, .int .i64 0]), 4) := by kernel_rfl
theorem pace_fill (u0 u1 u2 u3 d0 d1 d2 d3 : Int) : Instr.fill (fun i => some (i * 4, 4)) ((Array.range (2 * 4)).map ((Value.agg #[.int .i64 0, .int .i64 0, .int .i64 0, .int .i64 0]).cells[· % (Value.agg #[.int .i64 0, .int .i64 0, .int .i64 0, .int .i64 0]).cells.size]!)) [(0, .agg #[.int .i64 u0, .int .i64 u1, .int .i64 u2, .int .i64 u3]), (1, .agg #[.int .i64 d0, .int .i64 d1, .int .i64 d2, .int .i64 d3])] = some #[.int .i64 u0, .int .i64 u1, .int .i64 u2, .int .i64 u3, .int .i64 d0, .int .i64 d1, .int .i64 d2, .int .i64 d3] := by kernel_rfl
theorem refPlan (name : ByteArray) (mn mx poll cool tol back after shift u0 u1 u2 u3 d0 d1 d2 d3 : Int) (A : Option Addr) (cap : Nat) (ts : List Trg) (w : World) (ht : G.ListIn w 17 Trg.enc (.slice A ts.length cap) ts) (hf : ∀ t ∈ ts, t.fits) (hn : name.size ≤ 9223372036854775807) (hl : ts.length ≤ 9223372036854775807) :
  Calls Tryz.prog 5 #[.agg #[.string name, .int .i64 mn, .int .i64 mx, .int .i64 poll, .int .i64 cool, .int .i64 tol, .int .i64 back, .int .i64 after, .int .i64 shift, .int .i64 u0, .int .i64 u1, .int .i64 u2, .int .i64 u3, .int .i64 d0, .int .i64 d1, .int .i64 d2, .int .i64 d3, .slice A ts.length cap]] w fun e w' => e = .returned (.int .i64 (planE (⟨name, mn, mx, poll, cool, tol, back, after, shift, ⟨u0, u1, u2, u3⟩, ⟨d0, d1, d2, d3⟩, ts⟩ : Pln))) ∧ Below w.heap.size w w' := by
 have HS := J (show RpS w (w.alloc (.cells #[.string name, .int .i64 mn, .int .i64 mx, .int .i64 poll, .int .i64 cool, .int .i64 tol, .int .i64 back, .int .i64 after, .int .i64 shift, .int .i64 u0, .int .i64 u1, .int .i64 u2, .int .i64 u3, .int .i64 d0, .int .i64 d1, .int .i64 d2, .int .i64 d3, .slice A ts.length cap] 26)) w.heap.size #[.string name, .int .i64 mn, .int .i64 mx, .int .i64 poll, .int .i64 cool, .int .i64 tol, .int .i64 back, .int .i64 after, .int .i64 shift, .int .i64 u0, .int .i64 u1, .int .i64 u2, .int .i64 u3, .int .i64 d0, .int .i64 d1, .int .i64 d2, .int .i64 d3, .slice A ts.length cap] A cap ts from
  have hb := (Below.refl w.heap.size w).alloc (Nat.le_refl _) (.cells #[.string name, .int .i64 mn, .int .i64 mx, .int .i64 poll, .int .i64 cool, .int .i64 tol, .int .i64 back, .int .i64 after, .int .i64 shift, .int .i64 u0, .int .i64 u1, .int .i64 u2, .int .i64 u3, .int .i64 d0, .int .i64 d1, .int .i64 d2, .int .i64 d3, .slice A ts.length cap] 26)
  ⟨G.At.made w 26 #[.string name, .int .i64 mn, .int .i64 mx, .int .i64 poll, .int .i64 cool, .int .i64 tol, .int .i64 back, .int .i64 after, .int .i64 shift, .int .i64 u0, .int .i64 u1, .int .i64 u2, .int .i64 u3, .int .i64 d0, .int .i64 d1, .int .i64 d2, .int .i64 d3, .slice A ts.length cap], ht.below hb (Nat.le_refl _), hb⟩)
 have HF := J hf
 have HP := J (show planE (⟨name, mn, mx, poll, cool, tol, back, after, shift, ⟨u0, u1, u2, u3⟩, ⟨d0, d1, d2, d3⟩, ts⟩ : Pln) = if nameOk name = false then 3 else if 5 < ts.length then 2 else if (pl1 mn mx poll cool tol back after shift && (pc1 u0 u1 u2 u3 && pc1 d0 d1 d2 d3)) = false then 1 else trigsE ts by rw [← nums_is name _ _ _ _ _ _ _ _ _ _ _ _ _ _ _ _ ts]; rfl)
 obtain ⟨R, hR⟩ : ∃ R, planE (⟨name, mn, mx, poll, cool, tol, back, after, shift, ⟨u0, u1, u2, u3⟩, ⟨d0, d1, d2, d3⟩, ts⟩ : Pln) = R := ⟨_, rfl⟩
 rw [hR] at HP ⊢
 have HL := J hl; have HNm := J hn
 clear hR ht hf
 go_enter Tryz.func5, Tryz.ntmps5
 go_upto_region 1 with fail
 generalize w.alloc (.cells #[.string name, .int .i64 mn, .int .i64 mx, .int .i64 poll, .int .i64 cool, .int .i64 tol, .int .i64 back, .int .i64 after, .int .i64 shift, .int .i64 u0, .int .i64 u1, .int .i64 u2, .int .i64 u3, .int .i64 d0, .int .i64 d1, .int .i64 d2, .int .i64 d3, .slice A ts.length cap] 26) = W at HS ⊢
 generalize w.heap.size = g at HS ⊢
 have x0 := HS.u.at_.here (i := 0) rfl
 go_wp2_with fail
 refine (refInW _ 1 16 _).mono ?_
 rintro e w' ⟨rfl, rfl⟩
 rw [← nameUp_zero]
 go_wp2_with fail
 go_loopw [3, 4] (fun x y wr => ∃ k : Nat, k ≤ name.size ∧ x = .bool (nameUp name k) ∧ y = .int .i64 k ∧ W = wr) (fun _ y _ => name.size - (intOf y).toNat)
 case atStart => exact ⟨0, by omega, rfl, rfl, rfl⟩
 obtain ⟨k, hk, rfl, rfl, rfl⟩ := hrel
 have i0 : (0 : Int) ≤ (k : Int) := by omega
 have HKn := J hn
 by_cases hlt : k < name.size
 ·as_aux_lemma =>
  have i1 : (k : Int) < (name.size : Int) := by omega
  have HNx := J (nameUp_next name k)
  have HVal := J (show byteB (byteAt name k) = ((decide (97 ≤ byteAt name k) && decide (byteAt name k ≤ 122)) || (decide (48 ≤ byteAt name k) && decide (byteAt name k ≤ 57)) || byteAt name k == 45) from rfl)
  have hx := byteAt_bd name k
  go_upto_region 6 with fail
  rw [byte_at hlt]
  generalize byteAt name k = x at HNx HVal hx ⊢
  have y0 : (0 : Int) ≤ (x : Int) := by omega
  have y1 : (x : Int) ≤ 255 := by omega
  have HK := J hlt
  clear hx hk
  cases hB : nameUp name k with
  | false =>
   have HN := J (show nameUp name (k + 1) = false by rw [HNx.u, hB]; rfl)
   clear HNx HVal hB
   go_wp2_with fail
   go_round
   case rel => exact ⟨k + 1, by have := HK.u; omega, by rw [HN.u] <;> simp <;> omega, by go_num, by first | rfl | trivial⟩
   case measure => have := HK.u; simp [intOf]; omega
  | true =>
   by_cases a1 : x < 97
   ·by_cases b1 : x < 48
    ·by_cases c1 : x = 45
     ·as_aux_lemma =>
      have HN := J (show nameUp name (k + 1) = true by rw [HNx.u, hB, HVal.u]; rw [c1]; rfl)
      subst c1
      clear a1 b1 y0 y1
      clear HNx HVal hB
      go_wp2_with fail
      go_round
      case rel => exact ⟨k + 1, by have := HK.u; omega, by rw [HN.u] <;> simp <;> omega, by go_num, by first | rfl | trivial⟩
      case measure => have := HK.u; simp [intOf]; omega
     as_aux_lemma =>
     have HN := J (show nameUp name (k + 1) = false by rw [HNx.u, hB, HVal.u]; rw [decide_eq_false (show ¬ 97 ≤ x by omega), decide_eq_false (show ¬ 48 ≤ x by omega)]; simpa using c1)
     have c2 : ((x : Int) == 45) = false := by simp; omega
     have b2 : (x : Int) < 48 := by omega
     have a2 : (x : Int) < 97 := by omega
     clear a1 b1 c1
     clear HNx HVal hB
     go_wp2_with fail
     go_round
     case rel => exact ⟨k + 1, by have := HK.u; omega, by rw [HN.u] <;> simp <;> omega, by go_num, by first | rfl | trivial⟩
     case measure => have := HK.u; simp [intOf]; omega
    by_cases b2 : 57 < x
    ·as_aux_lemma =>
     have HN := J (show nameUp name (k + 1) = false by rw [HNx.u, hB, HVal.u]; rw [decide_eq_false (show ¬ 97 ≤ x by omega), decide_eq_false (show ¬ x ≤ 57 by omega)]; simp; omega)
     have c2 : ((x : Int) == 45) = false := by simp; omega
     have b3 : (57 : Int) < (x : Int) := by omega
     have b4 : (48 : Int) ≤ (x : Int) := by omega
     have a2 : (x : Int) < 97 := by omega
     clear a1 b1 b2
     clear HNx HVal hB
     go_wp2_with fail
     go_round
     case rel => exact ⟨k + 1, by have := HK.u; omega, by rw [HN.u] <;> simp <;> omega, by go_num, by first | rfl | trivial⟩
     case measure => have := HK.u; simp [intOf]; omega
    as_aux_lemma =>
    have HN := J (show nameUp name (k + 1) = true by rw [HNx.u, hB, HVal.u]; rw [decide_eq_true (show 48 ≤ x by omega), decide_eq_true (show x ≤ 57 by omega)]; simp)
    have b3 : (x : Int) ≤ 57 := by omega
    have b4 : (48 : Int) ≤ (x : Int) := by omega
    have a2 : (x : Int) < 97 := by omega
    clear a1 b1 b2
    clear HNx HVal hB
    go_wp2_with fail
    go_round
    case rel => exact ⟨k + 1, by have := HK.u; omega, by rw [HN.u] <;> simp <;> omega, by go_num, by first | rfl | trivial⟩
    case measure => have := HK.u; simp [intOf]; omega
   by_cases a2 : 122 < x
   ·as_aux_lemma =>
    have HN := J (show nameUp name (k + 1) = false by rw [HNx.u, hB, HVal.u]; rw [decide_eq_false (show ¬ x ≤ 122 by omega), decide_eq_false (show ¬ x ≤ 57 by omega)]; simp; omega)
    have c2 : ((x : Int) == 45) = false := by simp; omega
    have a3 : (122 : Int) < (x : Int) := by omega
    have b4 : (57 : Int) < (x : Int) := by omega
    have b5 : (48 : Int) ≤ (x : Int) := by omega
    have a4 : (97 : Int) ≤ (x : Int) := by omega
    clear a1 a2
    clear HNx HVal hB
    go_wp2_with fail
    go_round
    case rel => exact ⟨k + 1, by have := HK.u; omega, by rw [HN.u] <;> simp <;> omega, by go_num, by first | rfl | trivial⟩
    case measure => have := HK.u; simp [intOf]; omega
   as_aux_lemma =>
   have HN := J (show nameUp name (k + 1) = true by rw [HNx.u, hB, HVal.u]; rw [decide_eq_true (show x ≤ 122 by omega), decide_eq_true (show 97 ≤ x by omega)]; simp)
   have a3 : (x : Int) ≤ 122 := by omega
   have a4 : (97 : Int) ≤ (x : Int) := by omega
   clear a1 a2
   clear HNx HVal hB
   go_wp2_with fail
   go_round
   case rel => exact ⟨k + 1, by have := HK.u; omega, by rw [HN.u] <;> simp <;> omega, by go_num, by first | rfl | trivial⟩
   case measure => have := HK.u; simp [intOf]; omega
 as_aux_lemma =>
 obtain rfl : k = name.size := by omega
 rw [nameUp_all]
 clear hk hlt HKn
 cases hB : nameOk name with
 | false =>
  have HFin := J (show R = 3 by rw [HP.u, hB]; rfl)
  have HBe := J HS.u.below
  clear HP hB
  go_wp2_with fail
  go_ret
  exact ⟨by rw [HFin.u] <;> rfl, HBe.u⟩
 | true =>
  have x17 := HS.u.at_.here (i := 17) rfl
  by_cases hlen : 5 < ts.length
  ·have HFin := J (show R = 2 by rw [HP.u, hB, if_neg (by simp), if_pos hlen])
   have HBe := J HS.u.below
   have h5 : (5 : Int) < (ts.length : Int) := by omega
   clear HP hB hlen
   go_wp2_with fail
   go_ret
   exact ⟨by rw [HFin.u] <;> rfl, HBe.u⟩
  have HP2 := J (show R = if (pl1 mn mx poll cool tol back after shift && (pc1 u0 u1 u2 u3 && pc1 d0 d1 d2 d3)) = false then 1 else trigsE ts by rw [HP.u, hB, if_neg (by simp), if_neg hlen])
  have h5 : (ts.length : Int) ≤ 5 := by omega
  clear hlen HP hB
  as_aux_lemma =>
  have x1 := HS.u.at_.here (i := 1) rfl
  have x2 := HS.u.at_.here (i := 2) rfl
  have x3 := HS.u.at_.here (i := 3) rfl
  have x4 := HS.u.at_.here (i := 4) rfl
  have x5 := HS.u.at_.here (i := 5) rfl
  have x6 := HS.u.at_.here (i := 6) rfl
  have x7 := HS.u.at_.here (i := 7) rfl
  have x8 := HS.u.at_.here (i := 8) rfl
  go_upto_region 11 with fail
  have HPl := J (show pl1 mn mx poll cool tol back after shift = (wiB mn 0 50 && (wiB mx 1 50 && (decide (mn ≤ mx) && (wiB poll 1 100000 && (wiB cool 1 100000 && (wiB tol 0 1000 && (wiB back 0 50 && (wiB after 0 100 && wiB shift (-900) 900)))))))) from rfl)
  generalize pl1 mn mx poll cool tol back after shift = B1 at HPl HP2
  go_cut [3] (fun x wx => x = .bool B1 ∧ W = wx)
  case first =>
   as_aux_lemma =>
   go_wp2_with fail
   refine (refInW mn 0 50 _).mono ?_
   rintro e w' ⟨rfl, rfl⟩
   generalize wiB mn 0 50 = y at HPl ⊢
   cases y
   ·have HV := J (show B1 = false by rw [HPl.u]; rfl)
    clear HPl
    go_wp2_with fail
    go_meet
    exact ⟨by rw [HV.u] <;> rfl, rfl⟩
   go_wp2_with fail
   refine (refInW mx 1 50 _).mono ?_
   rintro e w' ⟨rfl, rfl⟩
   generalize wiB mx 1 50 = y at HPl ⊢
   cases y
   ·have HV := J (show B1 = false by rw [HPl.u]; rfl)
    clear HPl
    go_wp2_with fail
    go_meet
    exact ⟨by rw [HV.u] <;> rfl, rfl⟩
   by_cases hm : mn ≤ mx
   case neg =>
    have hm2 : mx < mn := by omega
    have HV := J (show B1 = false by rw [HPl.u, decide_eq_false hm]; rfl)
    clear hm
    clear HPl
    go_wp2_with fail
    go_meet
    exact ⟨by rw [HV.u] <;> rfl, rfl⟩
   have HPm := HPl.u
   rw [decide_eq_true hm] at HPm
   have HPl := J HPm
   clear HPm
   go_wp2_with fail
   refine (refInW poll 1 100000 _).mono ?_
   rintro e w' ⟨rfl, rfl⟩
   generalize wiB poll 1 100000 = y at HPl ⊢
   cases y
   ·have HV := J (show B1 = false by rw [HPl.u]; rfl)
    clear HPl
    go_wp2_with fail
    go_meet
    exact ⟨by rw [HV.u] <;> rfl, rfl⟩
   go_wp2_with fail
   refine (refInW cool 1 100000 _).mono ?_
   rintro e w' ⟨rfl, rfl⟩
   generalize wiB cool 1 100000 = y at HPl ⊢
   cases y
   ·have HV := J (show B1 = false by rw [HPl.u]; rfl)
    clear HPl
    go_wp2_with fail
    go_meet
    exact ⟨by rw [HV.u] <;> rfl, rfl⟩
   go_wp2_with fail
   refine (refInW tol 0 1000 _).mono ?_
   rintro e w' ⟨rfl, rfl⟩
   generalize wiB tol 0 1000 = y at HPl ⊢
   cases y
   ·have HV := J (show B1 = false by rw [HPl.u]; rfl)
    clear HPl
    go_wp2_with fail
    go_meet
    exact ⟨by rw [HV.u] <;> rfl, rfl⟩
   go_wp2_with fail
   refine (refInW back 0 50 _).mono ?_
   rintro e w' ⟨rfl, rfl⟩
   generalize wiB back 0 50 = y at HPl ⊢
   cases y
   ·have HV := J (show B1 = false by rw [HPl.u]; rfl)
    clear HPl
    go_wp2_with fail
    go_meet
    exact ⟨by rw [HV.u] <;> rfl, rfl⟩
   go_wp2_with fail
   refine (refInW after 0 100 _).mono ?_
   rintro e w' ⟨rfl, rfl⟩
   generalize wiB after 0 100 = y at HPl ⊢
   cases y
   ·have HV := J (show B1 = false by rw [HPl.u]; rfl)
    clear HPl
    go_wp2_with fail
    go_meet
    exact ⟨by rw [HV.u] <;> rfl, rfl⟩
   go_wp2_with fail
   refine (refInW shift (-900) 900 _).mono ?_
   rintro e w' ⟨rfl, rfl⟩
   generalize wiB shift (-900) 900 = y at HPl ⊢
   cases y
   ·have HV := J (show B1 = false by rw [HPl.u]; rfl)
    clear HPl
    go_wp2_with fail
    go_meet
    exact ⟨by rw [HV.u] <;> rfl, rfl⟩
   have HV := J (show B1 = true by rw [HPl.u]; rfl)
   clear HPl
   go_wp2_with fail
   go_meet
   exact ⟨by rw [HV.u] <;> rfl, rfl⟩
  as_aux_lemma =>
  obtain ⟨rfl, rfl⟩ := hcut
  clear HPl x0 x1 x2 x3 x4 x5 x6 x7 x8
  have x9 := HS.u.at_.here (i := 9) rfl
  have x10 := HS.u.at_.here (i := 10) rfl
  have x11 := HS.u.at_.here (i := 11) rfl
  have x12 := HS.u.at_.here (i := 12) rfl
  have x13 := HS.u.at_.here (i := 13) rfl
  have x14 := HS.u.at_.here (i := 14) rfl
  have x15 := HS.u.at_.here (i := 15) rfl
  have x16 := HS.u.at_.here (i := 16) rfl
  obtain ⟨j0, hj0, hz0, hz1⟩ := info_two pace_info
  have hz2 : ¬ 2 * j0.size > 2 ^ 24 := by rw [hz1]; decide
  have hz3 : ¬ 2 * j0.size = 0 := by rw [hz1]; decide
  have hz4 : Instr.fill (fun i => some (i * j0.size, j0.size)) ((Array.range (2 * j0.size)).map ((Value.agg #[.int .i64 0, .int .i64 0, .int .i64 0, .int .i64 0]).cells[· % (Value.agg #[.int .i64 0, .int .i64 0, .int .i64 0, .int .i64 0]).cells.size]!)) [(0, .agg #[.int .i64 u0, .int .i64 u1, .int .i64 u2, .int .i64 u3]), (1, .agg #[.int .i64 d0, .int .i64 d1, .int .i64 d2, .int .i64 d3])] = some #[.int .i64 u0, .int .i64 u1, .int .i64 u2, .int .i64 u3, .int .i64 d0, .int .i64 d1, .int .i64 d2, .int .i64 d3] := by rw [hz1]; exact pace_fill u0 u1 u2 u3 d0 d1 d2 d3
  have H0 := J hj0; have H1 := J hz0; have H2 := J hz2; have H3 := J hz3; have H4 := J hz4
  clear hj0 hz0 hz1 hz2 hz3 hz4
  go_wp2_with (refine bslice_law rfl 56 23 2 _ rfl [(0, .agg #[.int .i64 u0, .int .i64 u1, .int .i64 u2, .int .i64 u3]), (1, .agg #[.int .i64 d0, .int .i64 d1, .int .i64 d2, .int .i64 d3])] rfl #[.int .i64 u0, .int .i64 u1, .int .i64 u2, .int .i64 u3, .int .i64 d0, .int .i64 d1, .int .i64 d2, .int .i64 d3] j0 _ Tryz.underlying56 H0.u H1.u H2.u H3.u H4.u ?_)
  have HA := J (G.At.made W 23 #[.int .i64 u0, .int .i64 u1, .int .i64 u2, .int .i64 u3, .int .i64 d0, .int .i64 d1, .int .i64 d2, .int .i64 d3])
  have HS5 := J (HS.u.alloc (.cells #[.int .i64 u0, .int .i64 u1, .int .i64 u2, .int .i64 u3, .int .i64 d0, .int .i64 d1, .int .i64 d2, .int .i64 d3] 23))
  generalize W.alloc (.cells #[.int .i64 u0, .int .i64 u1, .int .i64 u2, .int .i64 u3, .int .i64 d0, .int .i64 d1, .int .i64 d2, .int .i64 d3] 23) = W5 at HA HS5 ⊢
  generalize W.heap.size = b5 at HA ⊢
  clear HS H0 H1 H2 H3 H4 x9 x10 x11 x12 x13 x14 x15 x16 x17
  generalize hD : pc1 d0 d1 d2 d3 = D2 at HP2
  generalize hU : pc1 u0 u1 u2 u3 = D1 at HP2
  have HD := J (hD.symm.trans (show pc1 d0 d1 d2 d3 = (wiB d0 0 100000 && (wiB d3 0 100000 && (wiB d1 0 50 && wiB d2 0 1000))) from rfl))
  have HU := J (hU.symm.trans (show pc1 u0 u1 u2 u3 = (wiB u0 0 100000 && (wiB u3 0 100000 && (wiB u1 0 50 && wiB u2 0 1000))) from rfl))
  clear hD hU
  obtain ⟨F, HFs⟩ : ∃ F : Nat → Bool, Hid (F 0 = B1 ∧ F 1 = (B1 && D1) ∧ F 2 = (B1 && (D1 && D2))) := ⟨fun | 0 => B1 | 1 => (B1 && D1) | _ => (B1 && (D1 && D2)), J ⟨rfl, rfl, rfl⟩⟩
  rw [← HFs.u.1]
  go_loopw [3, 104] (fun x y wr => ∃ k : Nat, k ≤ 2 ∧ x = .bool (F k) ∧ y = .int .i64 k ∧ Hid (RpS w wr g #[.string name, .int .i64 mn, .int .i64 mx, .int .i64 poll, .int .i64 cool, .int .i64 tol, .int .i64 back, .int .i64 after, .int .i64 shift, .int .i64 u0, .int .i64 u1, .int .i64 u2, .int .i64 u3, .int .i64 d0, .int .i64 d1, .int .i64 d2, .int .i64 d3, .slice A ts.length cap] A cap ts) ∧ Hid (G.At wr b5 23 #[.int .i64 u0, .int .i64 u1, .int .i64 u2, .int .i64 u3, .int .i64 d0, .int .i64 d1, .int .i64 d2, .int .i64 d3])) (fun _ y _ => 2 - (intOf y).toNat)
  case atStart => exact ⟨0, by omega, rfl, rfl, HS5, HA⟩
  clear HS5 HA
  obtain ⟨k, hk, rfl, rfl, HS, HA⟩ := hrel
  by_cases k0 : k = 0
  ·as_aux_lemma =>
   subst k0
   have a0 := HA.u.here (i := 0) rfl
   have a1 := HA.u.here (i := 1) rfl
   have a2 := HA.u.here (i := 2) rfl
   have a3 := HA.u.here (i := 3) rfl
   go_upto_region 15 with fail
   have HS6 := J (HS.u.alloc (.cells #[.int .i64 u0, .int .i64 u1, .int .i64 u2, .int .i64 u3] 23))
   have HA6 := J (HA.u.alloc (.cells #[.int .i64 u0, .int .i64 u1, .int .i64 u2, .int .i64 u3] 23))
   have HX6 := J (G.At.made wr 23 #[.int .i64 u0, .int .i64 u1, .int .i64 u2, .int .i64 u3])
   generalize wr.alloc (.cells #[.int .i64 u0, .int .i64 u1, .int .i64 u2, .int .i64 u3] 23) = W6 at HS6 HA6 HX6 ⊢
   generalize wr.heap.size = b6 at HX6 ⊢
   clear a0 a1 a2 a3 HS HA
   have a0 := HX6.u.here (i := 0) rfl
   have a1 := HX6.u.here (i := 1) rfl
   have a2 := HX6.u.here (i := 2) rfl
   have a3 := HX6.u.here (i := 3) rfl
   rw [HFs.u.1]
   obtain ⟨Bn, hBn⟩ : ∃ Bn, B1 = Bn := ⟨_, rfl⟩
   rw [hBn]
   have HNx := J (show F 1 = (Bn && D1) by rw [HFs.u.2.1, ← hBn])
   clear hBn HP2 HFs
   cases Bn with
   | false =>
    have HV := J (show F 1 = false by rw [HNx.u]; rfl)
    clear HNx
    go_wp2_with fail
    go_round
    case rel => exact ⟨1, by omega, by rw [HV.u], by go_num, HS6, HA6⟩
    case measure => simp [intOf]
   | true =>
    go_wp2_with fail
    refine (refInW u0 0 100000 _).mono ?_
    rintro e w' ⟨rfl, rfl⟩
    generalize wiB u0 0 100000 = y at HU ⊢
    cases y
    ·have HV := J (show F 1 = false by rw [HNx.u, HU.u]; rfl)
     clear HNx HU
     go_wp2_with fail
     go_round
     case rel => exact ⟨1, by omega, by rw [HV.u], by go_num, HS6, HA6⟩
     case measure => simp [intOf]
    go_wp2_with fail
    refine (refInW u3 0 100000 _).mono ?_
    rintro e w' ⟨rfl, rfl⟩
    generalize wiB u3 0 100000 = y at HU ⊢
    cases y
    ·have HV := J (show F 1 = false by rw [HNx.u, HU.u]; rfl)
     clear HNx HU
     go_wp2_with fail
     go_round
     case rel => exact ⟨1, by omega, by rw [HV.u], by go_num, HS6, HA6⟩
     case measure => simp [intOf]
    go_wp2_with fail
    refine (refInW u1 0 50 _).mono ?_
    rintro e w' ⟨rfl, rfl⟩
    generalize wiB u1 0 50 = y at HU ⊢
    cases y
    ·have HV := J (show F 1 = false by rw [HNx.u, HU.u]; rfl)
     clear HNx HU
     go_wp2_with fail
     go_round
     case rel => exact ⟨1, by omega, by rw [HV.u], by go_num, HS6, HA6⟩
     case measure => simp [intOf]
    go_wp2_with fail
    refine (refInW u2 0 1000 _).mono ?_
    rintro e w' ⟨rfl, rfl⟩
    generalize wiB u2 0 1000 = y at HU ⊢
    cases y
    ·have HV := J (show F 1 = false by rw [HNx.u, HU.u]; rfl)
     clear HNx HU
     go_wp2_with fail
     go_round
     case rel => exact ⟨1, by omega, by rw [HV.u], by go_num, HS6, HA6⟩
     case measure => simp [intOf]
    have HV := J (show F 1 = true by rw [HNx.u, HU.u]; rfl)
    clear HNx HU
    go_wp2_with fail
    go_round
    case rel => exact ⟨1, by omega, by rw [HV.u], by go_num, HS6, HA6⟩
    case measure => simp [intOf]
  by_cases k1 : k = 1
  ·as_aux_lemma =>
   subst k1
   clear k0
   have a0 := HA.u.here (i := 4) rfl
   have a1 := HA.u.here (i := 5) rfl
   have a2 := HA.u.here (i := 6) rfl
   have a3 := HA.u.here (i := 7) rfl
   go_upto_region 15 with fail
   have HS6 := J (HS.u.alloc (.cells #[.int .i64 d0, .int .i64 d1, .int .i64 d2, .int .i64 d3] 23))
   have HA6 := J (HA.u.alloc (.cells #[.int .i64 d0, .int .i64 d1, .int .i64 d2, .int .i64 d3] 23))
   have HX6 := J (G.At.made wr 23 #[.int .i64 d0, .int .i64 d1, .int .i64 d2, .int .i64 d3])
   generalize wr.alloc (.cells #[.int .i64 d0, .int .i64 d1, .int .i64 d2, .int .i64 d3] 23) = W6 at HS6 HA6 HX6 ⊢
   generalize wr.heap.size = b6 at HX6 ⊢
   clear a0 a1 a2 a3 HS HA
   have a0 := HX6.u.here (i := 0) rfl
   have a1 := HX6.u.here (i := 1) rfl
   have a2 := HX6.u.here (i := 2) rfl
   have a3 := HX6.u.here (i := 3) rfl
   rw [HFs.u.2.1]
   obtain ⟨Bn, hBn⟩ : ∃ Bn, (B1 && D1) = Bn := ⟨_, rfl⟩
   rw [hBn]
   have HNx := J (show F 2 = (Bn && D2) by rw [HFs.u.2.2, ← Bool.and_assoc, ← hBn])
   clear hBn HP2 HFs
   cases Bn with
   | false =>
    have HV := J (show F 2 = false by rw [HNx.u]; rfl)
    clear HNx
    go_wp2_with fail
    go_round
    case rel => exact ⟨2, by omega, by rw [HV.u], by go_num, HS6, HA6⟩
    case measure => simp [intOf]
   | true =>
    go_wp2_with fail
    refine (refInW d0 0 100000 _).mono ?_
    rintro e w' ⟨rfl, rfl⟩
    generalize wiB d0 0 100000 = y at HD ⊢
    cases y
    ·have HV := J (show F 2 = false by rw [HNx.u, HD.u]; rfl)
     clear HNx HD
     go_wp2_with fail
     go_round
     case rel => exact ⟨2, by omega, by rw [HV.u], by go_num, HS6, HA6⟩
     case measure => simp [intOf]
    go_wp2_with fail
    refine (refInW d3 0 100000 _).mono ?_
    rintro e w' ⟨rfl, rfl⟩
    generalize wiB d3 0 100000 = y at HD ⊢
    cases y
    ·have HV := J (show F 2 = false by rw [HNx.u, HD.u]; rfl)
     clear HNx HD
     go_wp2_with fail
     go_round
     case rel => exact ⟨2, by omega, by rw [HV.u], by go_num, HS6, HA6⟩
     case measure => simp [intOf]
    go_wp2_with fail
    refine (refInW d1 0 50 _).mono ?_
    rintro e w' ⟨rfl, rfl⟩
    generalize wiB d1 0 50 = y at HD ⊢
    cases y
    ·have HV := J (show F 2 = false by rw [HNx.u, HD.u]; rfl)
     clear HNx HD
     go_wp2_with fail
     go_round
     case rel => exact ⟨2, by omega, by rw [HV.u], by go_num, HS6, HA6⟩
     case measure => simp [intOf]
    go_wp2_with fail
    refine (refInW d2 0 1000 _).mono ?_
    rintro e w' ⟨rfl, rfl⟩
    generalize wiB d2 0 1000 = y at HD ⊢
    cases y
    ·have HV := J (show F 2 = false by rw [HNx.u, HD.u]; rfl)
     clear HNx HD
     go_wp2_with fail
     go_round
     case rel => exact ⟨2, by omega, by rw [HV.u], by go_num, HS6, HA6⟩
     case measure => simp [intOf]
    have HV := J (show F 2 = true by rw [HNx.u, HD.u]; rfl)
    clear HNx HD
    go_wp2_with fail
    go_round
    case rel => exact ⟨2, by omega, by rw [HV.u], by go_num, HS6, HA6⟩
    case measure => simp [intOf]
  obtain rfl : k = 2 := by omega
  clear k0 k1 hk HA HU HD
  as_aux_lemma =>
  rw [HFs.u.2.2]
  have HP3 := J HP2.u
  clear HFs HP2
  generalize (B1 && (D1 && D2)) = BB at HP3 ⊢
  cases BB with
  | false =>
   have HFin := J (show R = 1 by rw [HP3.u]; rfl)
   have HBe := J HS.u.below
   clear HP3 HS
   go_wp2_with fail
   go_ret
   exact ⟨by rw [HFin.u] <;> rfl, HBe.u⟩
  | true =>
   have HP4 := J (show R = trigsE ts by rw [HP3.u]; rfl)
   clear HP3
   go_wp2_with fail
   go_loopw [8] (fun y wr => ∃ k : Nat, k ≤ ts.length ∧ y = .int .i64 k ∧ Hid (∀ q u, q < k → ts[q]? = some u → trigE u = 0) ∧ Hid (RpS w wr g #[.string name, .int .i64 mn, .int .i64 mx, .int .i64 poll, .int .i64 cool, .int .i64 tol, .int .i64 back, .int .i64 after, .int .i64 shift, .int .i64 u0, .int .i64 u1, .int .i64 u2, .int .i64 u3, .int .i64 d0, .int .i64 d1, .int .i64 d2, .int .i64 d3, .slice A ts.length cap] A cap ts)) (fun y _ => ts.length - (intOf y).toNat)
   case atStart => exact ⟨0, by omega, rfl, J (fun q u h => absurd h (Nat.not_lt_zero q)), HS⟩
   clear HS
   obtain ⟨k, hk, rfl, HN, HS⟩ := hrel
   have i0 : (0 : Int) ≤ (k : Int) := by omega
   have x17 := HS.u.at_.here (i := 17) rfl
   by_cases hlt : k < ts.length
   ·as_aux_lemma =>
    obtain ⟨t, htk⟩ := G.get_some ts hlt
    obtain ⟨A', cap', e, hc⟩ := HS.u.row
    cases e
    obtain ⟨b, off, rfl, hbl, hcl⟩ := hc (by omega)
    have HFk := J (HF.u t (List.mem_of_getElem? htk))
    have HYes := J (fun (h : trigE t = 0) => (show ∀ q u, q < k + 1 → ts[q]? = some u → trigE u = 0 from fun q u hq hu => by
     rcases Nat.lt_succ_iff_lt_or_eq.1 hq with c | c
     ·exact HN.u q u c hu
     subst c; rw [htk] at hu; cases hu; exact h))
    have HNo := J (fun (h : trigE t ≠ 0) => trigsE_at htk HN.u h)
    obtain ⟨kind, target, act, ⟨ai, ah, ad, am, aw, aa, ab⟩, ⟨bi, bh, bd, bm, bw, ba, bb⟩⟩ := t
    have c0 : wr.cell? ⟨b, off + k * 17, none⟩ = some (.int .i64 kind) := hcl k _ 0 _ htk rfl; have c1 : wr.cell? ⟨b, off + k * 17 + 1, none⟩ = some (.int .i64 target) := hcl k _ 1 _ htk rfl; have c2 : wr.cell? ⟨b, off + k * 17 + 2, none⟩ = some (.int .i64 act) := hcl k _ 2 _ htk rfl; have c3 : wr.cell? ⟨b, off + k * 17 + 3, none⟩ = some (.int .u64 (ai : Int)) := hcl k _ 3 _ htk rfl; have c4 : wr.cell? ⟨b, off + k * 17 + 4, none⟩ = some (.int .u64 (ah : Int)) := hcl k _ 4 _ htk rfl; have c5 : wr.cell? ⟨b, off + k * 17 + 5, none⟩ = some (.int .u64 (ad : Int)) := hcl k _ 5 _ htk rfl; have c6 : wr.cell? ⟨b, off + k * 17 + 6, none⟩ = some (.int .u64 (am : Int)) := hcl k _ 6 _ htk rfl; have c7 : wr.cell? ⟨b, off + k * 17 + 7, none⟩ = some (.int .u64 (aw : Int)) := hcl k _ 7 _ htk rfl; have c8 : wr.cell? ⟨b, off + k * 17 + 8, none⟩ = some (.bool aa) := hcl k _ 8 _ htk rfl; have c9 : wr.cell? ⟨b, off + k * 17 + 9, none⟩ = some (.bool ab) := hcl k _ 9 _ htk rfl; have c10 : wr.cell? ⟨b, off + k * 17 + 10, none⟩ = some (.int .u64 (bi : Int)) := hcl k _ 10 _ htk rfl; have c11 : wr.cell? ⟨b, off + k * 17 + 11, none⟩ = some (.int .u64 (bh : Int)) := hcl k _ 11 _ htk rfl; have c12 : wr.cell? ⟨b, off + k * 17 + 12, none⟩ = some (.int .u64 (bd : Int)) := hcl k _ 12 _ htk rfl; have c13 : wr.cell? ⟨b, off + k * 17 + 13, none⟩ = some (.int .u64 (bm : Int)) := hcl k _ 13 _ htk rfl; have c14 : wr.cell? ⟨b, off + k * 17 + 14, none⟩ = some (.int .u64 (bw : Int)) := hcl k _ 14 _ htk rfl; have c15 : wr.cell? ⟨b, off + k * 17 + 15, none⟩ = some (.bool ba) := hcl k _ 15 _ htk rfl; have c16 : wr.cell? ⟨b, off + k * 17 + 16, none⟩ = some (.bool bb) := hcl k _ 16 _ htk rfl
    have i1 : (k : Int) < (ts.length : Int) := by omega
    have HK := J hlt
    clear hc hcl htk hk hlt
    go_upto_region 23 with fail
    have HS2 := J (HS.u.alloc (.cells #[.int .i64 kind, .int .i64 target, .int .i64 act, .int .u64 (ai : Int), .int .u64 (ah : Int), .int .u64 (ad : Int), .int .u64 (am : Int), .int .u64 (aw : Int), .bool aa, .bool ab, .int .u64 (bi : Int), .int .u64 (bh : Int), .int .u64 (bd : Int), .int .u64 (bm : Int), .int .u64 (bw : Int), .bool ba, .bool bb] 63))
    have HT := J (G.At.made wr 63 #[.int .i64 kind, .int .i64 target, .int .i64 act, .int .u64 (ai : Int), .int .u64 (ah : Int), .int .u64 (ad : Int), .int .u64 (am : Int), .int .u64 (aw : Int), .bool aa, .bool ab, .int .u64 (bi : Int), .int .u64 (bh : Int), .int .u64 (bd : Int), .int .u64 (bm : Int), .int .u64 (bw : Int), .bool ba, .bool bb])
    generalize wr.alloc (.cells #[.int .i64 kind, .int .i64 target, .int .i64 act, .int .u64 (ai : Int), .int .u64 (ah : Int), .int .u64 (ad : Int), .int .u64 (am : Int), .int .u64 (aw : Int), .bool aa, .bool ab, .int .u64 (bi : Int), .int .u64 (bh : Int), .int .u64 (bd : Int), .int .u64 (bm : Int), .int .u64 (bw : Int), .bool ba, .bool bb] 63) = W2 at HT HS2 ⊢
    generalize wr.heap.size = g2 at HT ⊢
    clear c0 c1 c2 c3 c4 c5 c6 c7 c8 c9 c10 c11 c12 c13 c14 c15 c16 x17 HS HN
    have HSp := J (fun (W : World) => refSpanS ai ah ad am aw bi bh bd bm bw aa ab ba bb HFk.u.1 HFk.u.2 W)
    obtain ⟨E, hE⟩ : ∃ E, trigE (⟨kind, target, act, ⟨ai, ah, ad, am, aw, aa, ab⟩, ⟨bi, bh, bd, bm, bw, ba, bb⟩⟩ : Trg) = E := ⟨_, rfl⟩
    have HE := J hE
    rw [hE] at HYes HNo
    clear hE
    have HBad := J (fun (h : E = 1) => (show R = 1 by rw [HP4.u, HNo.u (by rw [h]; decide), h]))
    by_cases k3 : kind = 3
    ·as_aux_lemma =>
     subst k3
     have HV := J (show trigE (⟨3, target, act, ⟨ai, ah, ad, am, aw, aa, ab⟩, ⟨bi, bh, bd, bm, bw, ba, bb⟩⟩ : Trg) = (if wiB target 1 50 && act == 0 then spanE ⟨ai, ah, ad, am, aw, aa, ab⟩ ⟨bi, bh, bd, bm, bw, ba, bb⟩ else 1) from rfl)
     rw [HE.u] at HV
     clear HE
     have c0 := HT.u.here (i := 0) rfl
     have c1 := HT.u.here (i := 1) rfl
     have c2 := HT.u.here (i := 2) rfl
     have c3 := HT.u.here (i := 3) rfl
     have c4 := HT.u.here (i := 4) rfl
     have c5 := HT.u.here (i := 5) rfl
     have c6 := HT.u.here (i := 6) rfl
     have c7 := HT.u.here (i := 7) rfl
     have c8 := HT.u.here (i := 8) rfl
     have c9 := HT.u.here (i := 9) rfl
     have c10 := HT.u.here (i := 10) rfl
     have c11 := HT.u.here (i := 11) rfl
     have c12 := HT.u.here (i := 12) rfl
     have c13 := HT.u.here (i := 13) rfl
     have c14 := HT.u.here (i := 14) rfl
     have c15 := HT.u.here (i := 15) rfl
     have c16 := HT.u.here (i := 16) rfl
     go_wp2_with fail
     refine (refInW target 1 50 _).mono ?_
     rintro e w' ⟨rfl, rfl⟩
     generalize wiB target 1 50 = y at HV ⊢
     cases y
     ·as_aux_lemma =>
      have HFin := J (HBad.u (by rw [HV.u]; rfl))
      have HBe := J HS2.u.below
      clear HBad HYes HNo HP4 HV
      go_wp2_with fail
      go_ret
      exact ⟨by rw [HFin.u] <;> rfl, HBe.u⟩
     by_cases ha : act = 0
     case neg =>
      have h1 : (act == 0) = false := by simpa using ha
      have h2 : (act != 0) = true := by simpa using ha
      have HFin := J (HBad.u (by rw [HV.u]; rw [h1]; rfl))
      have HBe := J HS2.u.below
      clear HBad HYes HNo HP4 HV
      go_wp2_with fail
      go_ret
      exact ⟨by rw [HFin.u] <;> rfl, HBe.u⟩
     have HV2 := J (show E = spanE ⟨ai, ah, ad, am, aw, aa, ab⟩ ⟨bi, bh, bd, bm, bw, ba, bb⟩ by rw [HV.u, ha]; rfl)
     subst ha
     clear HV
     go_wp2_with fail
     refine (HSp.u _).mono ?_
     rintro e w3 ⟨rfl, hb3⟩
     rw [← HV2.u]
     have HS3 := J (HS2.u.next hb3)
     clear hb3 HS2 HT HSp HV2 c0 c1 c2 c3 c4 c5 c6 c7 c8 c9 c10 c11 c12 c13 c14 c15 c16
     by_cases hE : E = 0
     ·have HF0 := J (HYes.u hE)
      subst hE
      go_wp2_with fail
      refine ⟨?_, ?_⟩
      ·first
       | exact ⟨k + 1, by have := HK.u; omega, by go_num, HF0, HS3⟩
       | ((repeat apply Exists.intro); refine ⟨?_, rfl⟩; exact ⟨k + 1, by have := HK.u; omega, by go_num, HF0, HS3⟩)
      have := HK.u; simp [intOf]; omega
     have HFin := J (HP4.u.trans (HNo.u hE))
     have HBe := J HS3.u.below
     have e1 : (E == 0) = false := by simpa using hE
     have e2 : (E != 0) = true := by simpa using hE
     clear hE
     go_wp2_with fail
     go_ret
     exact ⟨by rw [HFin.u] <;> rfl, HBe.u⟩
    have k3b : (kind == 3) = false := by simpa using k3
    by_cases k12 : kind = 1 ∨ kind = 2
    case neg =>
     as_aux_lemma =>
     have k1 : (kind == 1) = false := by simp; omega
     have k2 : (kind == 2) = false := by simp; omega
     have k1n : (kind != 1) = true := by simp; omega
     have k2n : (kind != 2) = true := by simp; omega
     have HV := J (show E = 1 by rw [← HE.u]; unfold trigE; rw [if_neg k12, if_neg k3])
     clear k12 k3 HE
     have c0 := HT.u.here (i := 0) rfl
     have c1 := HT.u.here (i := 1) rfl
     have c2 := HT.u.here (i := 2) rfl
     have c3 := HT.u.here (i := 3) rfl
     have c4 := HT.u.here (i := 4) rfl
     have c5 := HT.u.here (i := 5) rfl
     have c6 := HT.u.here (i := 6) rfl
     have c7 := HT.u.here (i := 7) rfl
     have c8 := HT.u.here (i := 8) rfl
     have c9 := HT.u.here (i := 9) rfl
     have c10 := HT.u.here (i := 10) rfl
     have c11 := HT.u.here (i := 11) rfl
     have c12 := HT.u.here (i := 12) rfl
     have c13 := HT.u.here (i := 13) rfl
     have c14 := HT.u.here (i := 14) rfl
     have c15 := HT.u.here (i := 15) rfl
     have c16 := HT.u.here (i := 16) rfl
     have HFin := J (HBad.u (by rw [HV.u]; skip))
     have HBe := J HS2.u.below
     clear HBad HYes HNo HP4 HV
     go_wp2_with fail
     go_ret
     exact ⟨by rw [HFin.u] <;> rfl, HBe.u⟩
    rcases k12 with hk | hk
    all_goals
     as_aux_lemma =>
     subst hk
     clear k3 k3b
     have HV := J (show E = (if wiB target 1 1000000 && (wiB act 0 1000000 && (Cr.isZero ⟨ai, ah, ad, am, aw, aa, ab⟩ && Cr.isZero ⟨bi, bh, bd, bm, bw, ba, bb⟩)) then 0 else 1) by rw [← HE.u]; rfl)
     clear HE
     obtain ⟨B, hB⟩ : ∃ B : Bool, B = !(wiB target 1 1000000 && (wiB act 0 1000000 && (Cr.isZero ⟨ai, ah, ad, am, aw, aa, ab⟩ && Cr.isZero ⟨bi, bh, bd, bm, bw, ba, bb⟩))) := ⟨_, rfl⟩
     have HBB := J hB
     have HVB := J (show E = if B then 1 else 0 by rw [HV.u, hB]; cases (wiB target 1 1000000 && (wiB act 0 1000000 && (Cr.isZero ⟨ai, ah, ad, am, aw, aa, ab⟩ && Cr.isZero ⟨bi, bh, bd, bm, bw, ba, bb⟩))) <;> rfl)
     clear hB HV
     have c0 := HT.u.here (i := 0) rfl
     go_upto_region 29 with fail
     clear c0
     go_cut [163] (fun s1 wx => s1 = .bool B ∧ W2 = wx)
     case first =>
      as_aux_lemma =>
      clear HVB HBad HYes HNo HP4 HSp HS2 HF HFk HK
      have c0 := HT.u.here (i := 0) rfl
      have c1 := HT.u.here (i := 1) rfl
      have c2 := HT.u.here (i := 2) rfl
      have c3 := HT.u.here (i := 3) rfl
      have c4 := HT.u.here (i := 4) rfl
      have c5 := HT.u.here (i := 5) rfl
      have c6 := HT.u.here (i := 6) rfl
      have c7 := HT.u.here (i := 7) rfl
      have c8 := HT.u.here (i := 8) rfl
      have c9 := HT.u.here (i := 9) rfl
      have c10 := HT.u.here (i := 10) rfl
      have c11 := HT.u.here (i := 11) rfl
      have c12 := HT.u.here (i := 12) rfl
      have c13 := HT.u.here (i := 13) rfl
      have c14 := HT.u.here (i := 14) rfl
      have c15 := HT.u.here (i := 15) rfl
      have c16 := HT.u.here (i := 16) rfl
      go_wp2_with fail
      refine (refInW target 1 1000000 _).mono ?_
      rintro e w' ⟨rfl, rfl⟩
      generalize wiB target 1 1000000 = y at HBB ⊢
      cases y
      ·as_aux_lemma =>
       have HBv := J (show B = true by rw [HBB.u]; rfl)
       clear HBB
       go_wp2_with fail
       go_meet
       exact ⟨by rw [HBv.u], rfl⟩
      go_wp2_with fail
      refine (refInW act 0 1000000 _).mono ?_
      rintro e w' ⟨rfl, rfl⟩
      generalize wiB act 0 1000000 = y at HBB ⊢
      cases y
      ·as_aux_lemma =>
       have HBv := J (show B = true by rw [HBB.u]; rfl)
       clear HBB
       go_wp2_with fail
       go_meet
       exact ⟨by rw [HBv.u], rfl⟩
      go_wp2_with (refine neq_law (by rfl) 61 _ _ _ rfl _ _ rfl rfl _ (fun W => span_neq ai ah ad am aw bi bh bd bm bw aa ab ba bb _ _ W) ?_)
      clear c0 c1 c2 c3 c4 c5 c6 c7 c8 c9 c10 c11 c12 c13 c14 c15 c16
      go_meet
      exact ⟨by rw [HBB.u]; simp only [Bool.true_and, Bool.not_and]; rfl, rfl⟩
     as_aux_lemma =>
     obtain ⟨rfl, rfl⟩ := hcut
     cases B with
     | true =>
      have HFin := J (HBad.u (by rw [HVB.u]; rfl))
      have HBe := J HS2.u.below
      clear HBad HYes HNo HP4 HVB HBB
      go_wp2_with fail
      go_ret
      exact ⟨by rw [HFin.u] <;> rfl, HBe.u⟩
     | false =>
      have HF0 := J (HYes.u (by rw [HVB.u]; rfl))
      clear HBad HYes HNo HP4 HVB HBB
      go_wp2_with fail
      refine ⟨?_, ?_⟩
      ·first
       | exact ⟨k + 1, by have := HK.u; omega, by go_num, HF0, HS2⟩
       | ((repeat apply Exists.intro); refine ⟨?_, rfl⟩; exact ⟨k + 1, by have := HK.u; omega, by go_num, HF0, HS2⟩)
      have := HK.u; simp [intOf]; omega
   as_aux_lemma =>
   obtain rfl : k = ts.length := by omega
   have hall : ∀ t ∈ ts, trigE t = 0 := fun t ht => by
    obtain ⟨i, hi, rfl⟩ := List.mem_iff_getElem.1 ht
    exact HN.u i _ hi (List.getElem?_eq_getElem hi)
   have HFin := J (show R = 0 by rw [HP4.u]; exact trigsE_all hall)
   have HBe := J HS.u.below
   clear hall hk hlt HN HP4
   go_wp2_with fail
   go_ret
   exact ⟨by rw [HFin.u] <;> rfl, HBe.u⟩
end Go.Proofs.YtidonhndeohdlaaGreat
