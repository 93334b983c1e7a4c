/- Parts of this claim: DskM, DskC, DskN, DskW, DskP, PrdU. -/
import Derived.Test.YtoidcbpcnikejaaGreatDoorDq23
import Derived.Test.YtoidcbpcnikejaaGreatDoorDq28
import Derived.Test.YtoidcbpcnikejaaGreatDoorDqPrdT
set_option linter.unusedVariables false
set_option linter.unusedSimpArgs false
set_option maxRecDepth 100000
set_option maxHeartbeats 12800000
namespace Go.Proofs.YtoidcbpcnikejaaGreatDoor
open Go.RowKit
inductive Ans
 | text (s : ByteArray)
 | fault (e at0 : Int)
structure Dk where
 text : ByteArray
 wo : Option Wo
def nOk (x : ByteArray) : Bool := G.wholeOk 12 x.data.toList
def nV (x : ByteArray) : Int := G.wholeV 12 x.data.toList
def numsOk (ws : List ByteArray) (n : Nat) : Bool := decide (ws.length = n) && ws.all nOk
def argV (ws : List ByteArray) (k : Nat) : Int := nV (G.pieceAt ws k)
def dkErr : ByteArray := ⟨#[101, 114, 114, 111, 114, 32]⟩
def dkOk : ByteArray := ⟨#[111, 107]⟩
def dkNone : ByteArray := ⟨#[110, 111, 110, 101]⟩
def dkLarge : ByteArray := ⟨#[101, 114, 114, 111, 114, 32, 50, 10]⟩
def vDate : ByteArray := ⟨#[100, 97, 116, 101]⟩
def vNext : ByteArray := ⟨#[110, 101, 120, 116]⟩
def vPlan : ByteArray := ⟨#[112, 108, 97, 110]⟩
def vWorld : ByteArray := ⟨#[119, 111, 114, 108, 100]⟩
def vClear : ByteArray := ⟨#[99, 108, 101, 97, 114]⟩
def vShow : ByteArray := ⟨#[115, 104, 111, 119]⟩
def vState : ByteArray := ⟨#[115, 116, 97, 116, 101]⟩
def vAsks : ByteArray := ⟨#[97, 115, 107, 115]⟩
def vTick : ByteArray := ⟨#[116, 105, 99, 107]⟩
def vPut : ByteArray := ⟨#[112, 117, 116]⟩
def vLease : ByteArray := ⟨#[108, 101, 97, 115, 101]⟩
def vAck : ByteArray := ⟨#[97, 99, 107]⟩
def vStart : ByteArray := ⟨#[115, 116, 97, 114, 116]⟩
def vReady : ByteArray := ⟨#[114, 101, 97, 100, 121]⟩
def vCrash : ByteArray := ⟨#[99, 114, 97, 115, 104]⟩
def vDone : ByteArray := ⟨#[100, 111, 110, 101]⟩
def vPause : ByteArray := ⟨#[112, 97, 117, 115, 101]⟩
def vMake : ByteArray := ⟨#[109, 97, 107, 101]⟩
def vTake : ByteArray := ⟨#[116, 97, 107, 101]⟩
def vFail : ByteArray := ⟨#[102, 97, 105, 108]⟩
def vAsk : ByteArray := ⟨#[97, 115, 107]⟩
def kindT : List (ByteArray × Int × Nat) := [(vTick, 1, 1), (vPut, 4, 1), (vLease, 5, 1), (vAck, 6, 1), (vStart, 8, 1), (vReady, 9, 1), (vCrash, 10, 1), (vDone, 12, 1), (vPause, 13, 1), (vMake, 2, 2), (vTake, 3, 2), (vFail, 7, 2), (vAsk, 11, 2)]
def kindN (v : ByteArray) : Int × Nat := ((kindT.find? fun x => decide (x.1 = v)).map (·.2)).getD (0, 0)
def Ans.say : Ans → ByteArray
 | .text s => s
 | .fault e a => if 0 ≤ a then (dkErr ++ G.itoB e) ++ (⟨#[32]⟩ ++ G.itoB a) else dkErr ++ G.itoB e
def chk (e : Int) (s : ByteArray) : Ans := if e = 0 then .text s else .fault e (-1)
def dateTxt (s h : Int) : ByteArray :=
 G.joinB 45 [G.itoB (G.yrOf ((s + 60 * h) / 86400)), G.itoB (G.moOf ((s + 60 * h) / 86400)), G.itoB (G.dyOf ((s + 60 * h) / 86400))] ++ ⟨#[32]⟩ ++
 G.joinB 58 [G.itoB ((s + 60 * h) % 86400 / 3600), G.itoB ((s + 60 * h) % 86400 / 60 % 60), G.itoB ((s + 60 * h) % 86400 % 60)] ++ ⟨#[32]⟩ ++ G.itoB (((s + 60 * h) / 86400 + 4) % 7)
def dateA (ws : List ByteArray) : Ans := if numsOk ws 2 = true then (if okTime (argV ws 0) (argV ws 1) then .text (dateTxt (argV ws 0) (argV ws 1)) else .fault 1 (-1)) else .fault 3 (-1)
def nextA (ws : List ByteArray) : Ans :=
 if ws.length < 3 then .fault 3 (-1) else if numsOk (ws.take 2) 2 = false then .fault 3 (-1)
 else if G.cronCode (G.joinB 32 (ws.drop 2)) ≠ 0 then .fault (G.cronCode (G.joinB 32 (ws.drop 2))) (-1)
 else if (crOf (G.joinB 32 (ws.drop 2))).seekE (argV ws 0) (argV ws 1) = 0 ∧ (crOf (G.joinB 32 (ws.drop 2))).seekB (argV ws 0) (argV ws 1) 1 = false then .text dkNone
 else chk ((crOf (G.joinB 32 (ws.drop 2))).seekE (argV ws 0) (argV ws 1)) (G.itoB ((crOf (G.joinB 32 (ws.drop 2))).seekN (argV ws 0) (argV ws 1) 1))
def planLn (ws : List ByteArray) : ByteArray := G.joinB 32 ws ++ ⟨#[10]⟩
def moreA (d : Dk) (ws : List ByteArray) : Ans × Dk := if ws = [] then (.fault 3 (-1), d) else if 2048 < d.text.size + (planLn ws).size then (.fault 2 (-1), d) else (.text dkOk, { d with text := d.text ++ planLn ws })
def showA (d : Dk) : Ans := if (readR d.text).2.2 ≠ 0 then .fault (readR d.text).2.2 ((readR d.text).2.1 : Int) else chk (planE (readR d.text).1) ((if planE (readR d.text).1 = 0 then (readR d.text).1.text else ⟨#[]⟩) ++ dkOk)
def madeA (d : Dk) (ws : List ByteArray) : Ans × Dk :=
 if numsOk ws 3 = false then (.fault 3 (-1), d) else if (readR d.text).2.2 ≠ 0 then (.fault (readR d.text).2.2 ((readR d.text).2.1 : Int), d)
 else if newE (readR d.text).1 (argV ws 0) (argV ws 2) ≠ 0 then (.fault (newE (readR d.text).1 (argV ws 0) (argV ws 2)) (-1), d)
 else (.text dkOk, { d with wo := some (newWo (readR d.text).1 (argV ws 0) (argV ws 1) (argV ws 2)) })
def podTxt (p : G.Pod) : ByteArray := G.itoB p.id ++ ⟨#[58]⟩ ++ G.itoB p.state ++ ⟨#[58]⟩ ++ G.itoB p.load
def reqTxt (r : G.Req) : ByteArray := G.itoB r.source ++ ⟨#[58]⟩ ++ G.itoB r.fate
def stateT (m : Wo) : ByteArray := G.joinB 32 (G.itoB m.now :: G.itoB m.target :: m.f.map podTxt)
def asksT (m : Wo) : ByteArray := if m.b = [] then dkNone else G.joinB 32 (m.b.map reqTxt)
def happenA (d : Dk) (v : ByteArray) (ws : List ByteArray) : Ans × Dk :=
 if numsOk ws (kindN v).2 = false then (.fault 3 (-1), d) else match d.wo with
 | none => (.fault 7 (-1), d)
 | some m => if (kindN v).1 = 0 then (.text (if v = vState then stateT m else asksT m), d)
  else (chk (doE m (kindN v).1 (if (kindN v).2 = 2 then argV ws 0 else 0) (argV ws ((kindN v).2 - 1))) dkOk, { d with wo := some (doW m (kindN v).1 (if (kindN v).2 = 2 then argV ws 0 else 0) (argV ws ((kindN v).2 - 1))) })
def doA (d : Dk) (v : ByteArray) (ws : List ByteArray) : Ans × Dk :=
 if v = vDate then (dateA ws, d) else if v = vNext then (nextA ws, d) else if v = vPlan then moreA d ws else if v = vWorld then madeA d ws
 else if v = vClear ∨ v = vShow then (if ws ≠ [] then (.fault 3 (-1), d) else if v = vShow then (showA d, d) else (.text dkOk, { d with text := ⟨#[]⟩ }))
 else if v = vState ∨ v = vAsks then happenA d v ws else if 0 < (kindN v).1 then happenA d v ws else (.fault 3 (-1), d)
def linesB (t : ByteArray) : List (List UInt8) := if (G.pieces 10 t.data.toList).getLast? = some [] then (G.pieces 10 t.data.toList).dropLast else G.pieces 10 t.data.toList
def wordsL (l : List UInt8) : List ByteArray := ((G.pieces 32 l).filter fun p => !p.isEmpty).map fun p => ⟨p.toArray⟩
def said (ws : List ByteArray) : Bool := match ws with
 | [] => false
 | w :: _ => !(w.data.toList.head? == some 35)
def stepD (x : Dk × ByteArray) (l : List UInt8) : Dk × ByteArray := if said (wordsL l) = true then ((doA x.1 (G.pieceAt (wordsL l) 0) ((wordsL l).drop 1)).2, x.2 ++ ((doA x.1 (G.pieceAt (wordsL l) 0) ((wordsL l).drop 1)).1.say ++ ⟨#[10]⟩)) else x
def dkNew : Dk × ByteArray := (⟨⟨#[]⟩, none⟩, ⟨#[]⟩)
def runB (t : ByteArray) : ByteArray := if 65536 < t.size ∨ 200 < (linesB t).length then dkLarge else ((linesB t).foldl stepD dkNew).2
open Go.RowKit
end Go.Proofs.YtoidcbpcnikejaaGreatDoor
namespace G
theorem few12 {l : List UInt8} (h : (digsL l).length < 1 ∨ 12 < (digsL l).length) : wholeOk 12 l = false := by
 rw [wholeOk_is]
 rcases h with h | h
 ·rw [decide_eq_false (show ¬ 1 ≤ (digsL l).length by omega)]; rfl
 rw [decide_eq_false (show ¬ (digsL l).length ≤ 12 by omega), Bool.and_false]; rfl
theorem nought12 {l : List UInt8} (h : (digsL l).head? = some 48) (h2 : 1 < (digsL l).length ∨ minusL l = true) : wholeOk 12 l = false := by
 rw [wholeOk_is, h]
 have e : (decide (1 < (digsL l).length) || minusL l) = true := by
  rcases h2 with h2 | h2
  ·rw [decide_eq_true h2]; rfl
  rw [h2, Bool.or_true]
 rw [e]
 simp
theorem bad12 {l : List UInt8} {k : Nat} {b : UInt8} (h : (digsL l)[k]? = some b) (hb : digB b = false) : wholeOk 12 l = false := by
 rw [wholeOk_is]
 have e : (digsL l).all digB = false := by
  rw [List.all_eq_false]
  exact ⟨b, List.mem_of_getElem? h, by rw [hb]; simp⟩
 rw [e, Bool.and_false]
theorem good12 {l : List UInt8} (h1 : 1 ≤ (digsL l).length) (h2 : (digsL l).length ≤ 12) (h3 : ¬ ((digsL l).head? = some 48 ∧ (1 < (digsL l).length ∨ minusL l = true))) (h4 : (digsL l).all digB = true) :
  wholeOk 12 l = true ∧ wholeV 12 l = if minusL l = true then -valL (digsL l) else valL (digsL l) := by
 refine ⟨?_, ?_⟩
 ·rw [wholeOk_is, decide_eq_true h1, decide_eq_true h2, h4]
  have e : ((digsL l).head? == some 48 && (decide (1 < (digsL l).length) || minusL l)) = false := by
   cases hh : ((digsL l).head? == some 48) with
   | false => rfl
   | true =>
    rw [Bool.true_and]
    cases hx : (decide (1 < (digsL l).length) || minusL l) with
    | false => rfl
    | true =>
     rw [Bool.or_eq_true, decide_eq_true_eq] at hx
     exact absurd ⟨by simpa using hh, hx⟩ h3
  rw [e]; rfl
 unfold wholeV
 rw [numL_yes h1 h2 h4]
end G
namespace Go.Proofs.YtoidcbpcnikejaaGreatDoor
open Go.RowKit
def NumPost (s : ByteArray) (w : World) (e : Ending) (w' : World) : Prop := e = .returned (.tuple #[.int .i64 (if nOk s = true then nV s else 0), .bool (nOk s)]) ∧ w = w'
theorem num_none {s : ByteArray} {w : World} (h : nOk s = false) : NumPost s w (.returned (.tuple #[.int .i64 0, .bool false])) w := ⟨by rw [h]; rfl, rfl⟩
theorem num_some {s : ByteArray} {w : World} {n : Int} (h : nOk s = true) (hn : nV s = n) : NumPost s w (.returned (.tuple #[.int .i64 n, .bool true])) w := ⟨by rw [h, hn]; rfl, rfl⟩
theorem deskNumber (s : ByteArray) (hs : s.size ≤ 1000000) (w : World) : Calls Tryz.prog 68 #[.string s] w (NumPost s w) := by
 obtain ⟨d, hd⟩ : ∃ d : ByteArray, (⟨(Lib.trimPrefix s.data.toList [45]).toArray⟩ : ByteArray) = d := ⟨_, rfl⟩
 have hdd : d.data.toList = G.digsL s.data.toList := by rw [← hd]; show (Lib.trimPrefix _ _).toArray.toList = _; rw [List.toList_toArray, G.trim_minus]
 obtain ⟨mb, hmb⟩ : ∃ mb, G.minusL s.data.toList = mb := ⟨_, rfl⟩
 have HCut := J (show ∀ W, Calls Tryz.prog 107 #[.string s, .string ⟨#[45]⟩] W fun e w' => e = .returned (.tuple #[.string d, .bool mb]) ∧ W = w' from fun W => by
  have h := Tryz.strings_CutPrefix s ⟨#[45]⟩ W
  rw [show (⟨#[45]⟩ : ByteArray).data.toList = [45] from rfl, hd, G.has_minus, hmb] at h
  exact h.mono fun _ _ q => ⟨q.1, q.2.symm⟩)
 have hsz := G.ba_size d
 rw [hdd] at hsz
 have HFew := J (fun (h : d.size < 1 ∨ 12 < d.size) => num_none (s := s) (w := w) (G.few12 (by rw [← hsz]; exact h)))
 have HNou := J (fun (h0 : 0 < d.size) (h : byteAt d 0 = 48) (h2 : 1 < d.size ∨ mb = true) => num_none (s := s) (w := w) (G.nought12 (by rw [← hdd]; exact (head_byte h0).2 h) (by rw [← hsz, hmb]; exact h2)))
 have HBad := J (fun (k : Nat) (b : UInt8) (h : d.data.toList[k]? = some b) (hb : G.digB b = false) => num_none (s := s) (w := w) (G.bad12 (by rw [← hdd]; exact h) hb))
 have HGood := J (fun (h1 : 1 ≤ d.size) (h2 : d.size ≤ 12) (h3 : ¬ (byteAt d 0 = 48 ∧ (1 < d.size ∨ mb = true))) (h4 : d.data.toList.all G.digB = true) => by
  obtain ⟨q1, q2⟩ := G.good12 (l := s.data.toList) (by rw [← hsz]; exact h1) (by rw [← hsz]; exact h2) (by rw [← hsz, hmb, ← hdd, head_byte (by omega)]; exact h3) (by rw [← hdd]; exact h4)
  rw [hmb, ← hdd] at q2
  exact (num_some (s := s) (w := w) q1 q2 : NumPost s w (.returned (.tuple #[.int .i64 (if mb = true then -G.valL d.data.toList else G.valL d.data.toList), .bool true])) w))
 have HZ := J (G.ba_size d)
 obtain ⟨q, hq⟩ : ∃ q, (!wiB (d.size : Int) 1 12 || ((byteAt d 0 == 48) && (decide (1 < d.size) || mb))) = q := ⟨_, rfl⟩
 have HQ := J hq
 have hdl : d.size ≤ 1000000 := by
  have h1 := HZ.u
  rw [hdd] at h1
  have h2 := G.ba_size s
  have : (G.digsL s.data.toList).length ≤ s.data.toList.length := by
   unfold G.digsL; split
   ·rw [List.length_tail]; omega
   exact Nat.le_refl _
  omega
 have hdl2 : (d.size : Int) ≤ 1000000 := by omega
 clear hd hdd hmb hsz hq hs hdl
 go_enter Tryz.func68, Tryz.ntmps68
 go_wp2_with fail
 refine (HCut.u _).mono ?_
 rintro e w1 ⟨rfl, rfl⟩
 clear HCut
 go_upto_region 2 with fail
 go_cut [33] (fun v wx => v = .bool q ∧ w = wx)
 case first =>
  by_cases hs1 : d.size < 1
  ·have HV := J (show q = true by rw [← HQ.u, show wiB (d.size : Int) 1 12 = false by cases h : wiB (d.size : Int) 1 12; rfl; have := wiB_iff.1 h; omega]; rfl)
   have s1 : (d.size : Int) < 1 := by omega
   clear HQ hs1
   go_wp2_with fail
   go_meet
   exact ⟨by rw [HV.u] <;> rfl, rfl⟩
  have s1 : decide ((d.size : Int) < 1) = false := decide_eq_false (by omega)
  by_cases hs2 : 12 < d.size
  ·have HV := J (show q = true by rw [← HQ.u, show wiB (d.size : Int) 1 12 = false by cases h : wiB (d.size : Int) 1 12; rfl; have := wiB_iff.1 h; omega]; rfl)
   have s2 : (12 : Int) < (d.size : Int) := by omega
   have s3 : (1 : Int) ≤ (d.size : Int) := by omega
   clear HQ hs1 hs2
   go_wp2_with fail
   go_meet
   exact ⟨by rw [HV.u] <;> rfl, rfl⟩
  have s2 : (d.size : Int) ≤ 12 := by omega
  have s3 : (1 : Int) ≤ (d.size : Int) := by omega
  have hw1 : wiB (d.size : Int) 1 12 = true := wiB_iff.2 (by omega)
  rw [hw1] at HQ
  clear hw1
  have h0 : 0 < d.size := by omega
  have i1 : (0 : Int) < (d.size : Int) := by omega
  have e7 := byte_at h0
  by_cases hx : byteAt d 0 = 48
  ·rw [hx] at e7 HQ
   by_cases h1 : 1 < d.size
   ·have HV := J (show q = true by rw [← HQ.u, decide_eq_true h1]; rfl)
    have i2 : (1 : Int) < (d.size : Int) := by omega
    clear HQ hx h1
    go_wp2_with fail
    go_meet
    exact ⟨by rw [HV.u] <;> rfl, rfl⟩
   have HV := J (show q = mb by rw [← HQ.u, decide_eq_false h1]; rfl)
   have i2 : (d.size : Int) ≤ 1 := by omega
   have i3 : decide ((1 : Int) < (d.size : Int)) = false := decide_eq_false (by omega)
   have H4 := J (show decide ((12 : Int) < (d.size : Int)) = false from decide_eq_false (by omega))
   clear HQ hx h1
   go_wp2_with fail
   go_meet
   exact ⟨by rw [HV.u] <;> first | rfl | (rw [H4.u]; rfl), rfl⟩
  have HV := J (show q = false by rw [← HQ.u, show (byteAt d 0 == 48) = false by simpa using hx]; rfl)
  clear HQ
  generalize byteAt d 0 = x at hx e7
  have hx2 : ((x : Int) == 48) = false := by simp; omega
  have H4 := J (show decide ((12 : Int) < (d.size : Int)) = false from decide_eq_false (by omega))
  clear hx
  go_wp2_with fail
  go_meet
  exact ⟨by rw [HV.u] <;> first | rfl | (rw [H4.u] <;> rfl), rfl⟩
 obtain ⟨rfl, rfl⟩ := hcut
 cases q
 ·have hq := HQ.u
  simp only [Bool.or_eq_false_iff, Bool.not_eq_false'] at hq
  obtain ⟨hw, hq2⟩ := hq
  have hsz := wiB_iff.1 hw
  have HS := J (show 1 ≤ d.size ∧ d.size ≤ 12 by omega)
  have HQ2 := J (show ¬ (byteAt d 0 = 48 ∧ (1 < d.size ∨ mb = true)) from fun h => by
   rw [show (byteAt d 0 == 48) = true by simpa using h.1, Bool.true_and, Bool.or_eq_false_iff] at hq2
   rcases h.2 with h2 | h2
   ·rw [decide_eq_true h2] at hq2; cases hq2.1
   rw [h2] at hq2; cases hq2.2)
  have hd1 : (1 : Int) ≤ (d.size : Int) := hsz.1
  have hd7 : (d.size : Int) ≤ 12 := hsz.2
  clear hw hq2 hsz HQ HFew HNou
  as_aux_lemma =>
  go_wp2_with fail
  go_loop [6, 36] (fun n i => ∃ k : Nat, k ≤ d.size ∧ i = .int .i64 k ∧ n = .int .i64 (G.valL (d.data.toList.take k)) ∧ Hid ((d.data.toList.take k).all G.digB = true)) (fun _ i => d.size - (intOf i).toNat)
  case atStart => exact ⟨0, by omega, rfl, rfl, J rfl⟩
  obtain ⟨k, hk, rfl, rfl, HA⟩ := hrel
  by_cases hlt : k < d.size
  ·have i0 : (0 : Int) ≤ (k : Int) := by omega
   have i1 : (k : Int) < (d.size : Int) := by omega
   obtain ⟨b, hb, hx⟩ := byte_get hlt
   have hv := G.valL_bd k (d.data.toList.take k) (by rw [List.length_take]; have := HZ.u; omega) HA.u
   have hv2 : G.valL (d.data.toList.take k) < 1000000000000 := by
    have e : (10 : Int) ^ k ≤ 10 ^ 12 := by exact_mod_cast Nat.pow_le_pow_right (show 0 < 10 by decide) (show k ≤ 12 by omega)
    have : (10 : Int) ^ 12 = 1000000000000 := by decide
    omega
   have hv0 := hv.1
   have HNx := J (fun h1 h2 => dig_snoc hb hx h1 h2 HA.u)
   have HB1 := J (fun h => HBad.u k b hb (digB_low hx h))
   have HB2 := J (fun h => HBad.u k b hb (digB_high hx h))
   have HLt := J hlt
   clear hv hb hx HA
   have e7 := byte_at hlt
   have hxb := byteAt_bd d k
   generalize G.valL (d.data.toList.take k) = n at HNx hv0 hv2 ⊢
   generalize byteAt d k = x at HNx HB1 HB2 hxb e7 ⊢
   have x0 : (0 : Int) ≤ (x : Int) := by omega
   by_cases a1 : x < 48
   ·have HF := J (HB1.u a1)
    have a2 : (x : Int) < 48 := by omega
    clear a1 HNx HB1 HB2
    go_wp2_with fail
    go_ret2
    exact HF.u
   by_cases a2 : 57 < x
   ·have HF := J (HB2.u a2)
    have a3 : (57 : Int) < (x : Int) := by omega
    have a4 : (48 : Int) ≤ (x : Int) := by omega
    clear a1 a2 HNx HB1 HB2
    go_wp2_with fail
    go_ret2
    exact HF.u
   have HN := J (HNx.u (by omega) (by omega))
   have a3 : (x : Int) ≤ 57 := by omega
   have a4 : (48 : Int) ≤ (x : Int) := by omega
   have q1 : IntKind.u8.wrap ((x : Int) - 48) = (x : Int) - 48 := u8_in _ (by omega) (by omega)
   have q2 : IntKind.i64.wrap ((x : Int) - 48) = (x : Int) - 48 := IntWalk.i64_in _ (by omega)
   have q3 : IntKind.i64.wrap (10 * n) = 10 * n := IntWalk.i64_in _ (by omega)
   have q4 : IntKind.i64.wrap (10 * n + ((x : Int) - 48)) = 10 * n + ((x : Int) - 48) := IntWalk.i64_in _ (by omega)
   clear a1 a2 HNx HB1 HB2
   go_wp2_with fail
   go_round
   case rel => exact ⟨k + 1, by have := HLt.u; omega, by go_num, by rw [HN.u.2], J HN.u.1⟩
   case measure => have := HLt.u; simp [intOf]; omega
  have hke : k = d.size := by omega
  subst hke
  have e : d.data.toList.take d.size = d.data.toList := by rw [HZ.u, List.take_length]
  have h3 := HA.u
  rw [e] at h3 ⊢
  have hv := G.valL_bd d.data.toList.length d.data.toList rfl h3
  have hv2 : G.valL d.data.toList < 1000000000000 := by
   have e2 : (10 : Int) ^ d.data.toList.length ≤ 10 ^ 12 := by exact_mod_cast Nat.pow_le_pow_right (show 0 < 10 by decide) (show d.data.toList.length ≤ 12 by have := HZ.u; have := HS.u; omega)
   have : (10 : Int) ^ 12 = 1000000000000 := by decide
   omega
  have hv0 := hv.1
  have HF := J (HGood.u HS.u.1 HS.u.2 HQ2.u h3)
  clear hv h3 e hlt hk HA
  generalize G.valL d.data.toList = n at hv0 hv2 HF ⊢
  have q1 : IntKind.i64.wrap (-n) = -n := IntWalk.i64_in _ (by omega)
  cases mb
  ·go_wp2_with fail
   go_ret2
   exact HF.u
  go_wp2_with fail
  go_ret2
  exact HF.u
 have HF := J (show NumPost s w (.returned (.tuple #[.int .i64 0, .bool false])) w by
  have hq := HQ.u
  by_cases hsz : d.size < 1 ∨ 12 < d.size
  ·exact HFew.u hsz
  rw [show wiB (d.size : Int) 1 12 = true from wiB_iff.2 (by omega)] at hq
  simp only [Bool.not_true, Bool.false_or, Bool.and_eq_true, Bool.or_eq_true, decide_eq_true_eq, beq_iff_eq] at hq
  exact HNou.u (by omega) hq.1 hq.2)
 clear HQ HFew HNou
 go_wp2_with fail
 go_ret2
 exact HF.u
open Go.RowKit
def ErrAt (w : World) (v : Value) (e at0 : Int) : Prop := ∃ b, v = .iface 50 (.pointer (some ⟨b, 0, none⟩)) ∧ G.At w b 55 #[.int .i64 e, .int .i64 at0]
theorem ErrAt.below {w w' : World} {v : Value} {e a : Int} (h : ErrAt w v e a) (hb : Below w.heap.size w w') : ErrAt w' v e a := by
 obtain ⟨b, e1, h1⟩ := h
 exact ⟨b, e1, h1.below hb h1.inside⟩
def ChkPost (e a : Int) (w : World) (en : Ending) (w' : World) : Prop := ∃ v, en = .returned v ∧ (if e = 0 then v = .nilIface else ErrAt w' v e a) ∧ Below w.heap.size w w'
theorem chk_zero {a : Int} {w : World} : ChkPost 0 a w (.returned .nilIface) w := ⟨_, rfl, by rw [if_pos rfl], Below.refl _ _⟩
theorem chk_some {e a : Int} {w : World} (h : e ≠ 0) : ChkPost e a w (.returned (.iface 50 (.pointer (some ⟨w.heap.size, 0, none⟩)))) (w.alloc (.cells #[.int .i64 e, .int .i64 a] 55)) :=
 ⟨_, rfl, by rw [if_neg h]; exact ⟨_, rfl, G.At.made _ _ _⟩, (Below.refl _ _).alloc (Nat.le_refl _) _⟩
theorem deskCheck (e : Int) (w : World) : Calls Tryz.prog 35 #[.int .i64 e] w (ChkPost e (-1) w) := by
 by_cases h : e = 0
 ·subst h
  have HF := J (chk_zero (a := -1) (w := w))
  go_enter Tryz.func35, Tryz.ntmps35
  go_wp2_with fail
  go_ret
  exact HF.u
 have hb : (e == 0) = false := by simpa using h
 have HF := J (chk_some (a := -1) (w := w) h)
 clear h
 go_enter Tryz.func35, Tryz.ntmps35
 go_wp2_with fail
 go_ret
 exact HF.u
theorem deskCheckAt (e a : Int) (w : World) : Calls Tryz.prog 55 #[.int .i64 e, .int .i64 a] w (ChkPost e a w) := by
 by_cases h : e = 0
 ·subst h
  have HF := J (chk_zero (a := a) (w := w))
  go_enter Tryz.func55, Tryz.ntmps55
  go_wp2_with fail
  go_ret
  exact HF.u
 have hb : (e == 0) = false := by simpa using h
 have HF := J (chk_some (a := a) (w := w) h)
 clear h
 go_enter Tryz.func55, Tryz.ntmps55
 go_wp2_with fail
 go_ret
 exact HF.u
theorem check_err {e : Int} (he : e ≠ 0) (w : World) : Calls Tryz.prog 35 #[.int .i64 e] w fun en w' => ∃ v, en = .returned v ∧ ErrAt w' v e (-1) ∧ Below w.heap.size w w' :=
 (deskCheck e w).mono fun en w' ⟨v, h1, h2, h3⟩ => ⟨v, h1, by rw [if_neg he] at h2; exact h2, h3⟩
def WdsIn (w : World) (v : Value) (ws : List ByteArray) : Prop := ∃ A cap, v = .slice A ws.length cap ∧ ws.length ≤ cap ∧ (0 < ws.length → ∃ b off, A = some ⟨b, off, none⟩ ∧ WdsAt w b off ws)
theorem WdsIn.below {w w' : World} {v : Value} {ws : List ByteArray} (h : WdsIn w v ws) (hb : Below w.heap.size w w') : WdsIn w' v ws := by
 obtain ⟨A, cap, e, h1, h2⟩ := h
 exact ⟨A, cap, e, h1, fun h0 => by obtain ⟨b, off, e1, e2⟩ := h2 h0; exact ⟨b, off, e1, e2.below hb⟩⟩
def numV (x : ByteArray) : Value := .int .i64 (nV x)
inductive DNums (ws : List ByteArray) (many : Nat) (w : World) : Ending → World → Prop
 | bad (w' : World) (v : Value) (h : numsOk ws many = false) (he : ErrAt w' v 3 (-1)) (hb : Below w.heap.size w w') : DNums ws many w (.returned (.tuple #[.slice none 0 0, v])) w'
 | good (w' : World) (v : Value) (h : numsOk ws many = true) (hv : G.OwnRow (fun b => w.heap.size ≤ b) w' 3 1 v ws.length (ws.map numV)) (hb : Below w.heap.size w w') : DNums ws many w (.returned (.tuple #[v, .nilIface])) w'
structure DRun (ws : List ByteArray) (w wr : World) (k : Nat) (v : Value) : Prop where
 all : ∀ i x, i < k → ws[i]? = some x → nOk x = true
 row : G.OwnRow (fun b => w.heap.size ≤ b) wr 3 1 v k ((ws.map numV).take k)
 bel : Below w.heap.size w wr
theorem DRun.next {ws : List ByteArray} {w wr w2 : World} {k : Nat} {v v' : Value} {x : ByteArray} {o : Obj} (h : DRun ws w wr k v) (hx : ws[k]? = some x) (hok : nOk x = true) (hown : w2.ownsRow 0 3 1 v' (k + 1) ((ws.map numV).take k ++ [numV x])) (hg : (wr.alloc o).grownBy w2 v.ownBlock) (hv : v'.ownBlock = v.ownBlock ∨ v'.ownBlock = some (wr.alloc o).heap.size) : DRun ws w w2 (k + 1) v' := by
 have hz := h.bel.size
 refine ⟨fun i y hi hy => ?_, ?_, (h.bel.alloc hz o).grown hg (by simp; omega) fun g hgb => (h.row.block g hgb).1⟩
 ·rcases Nat.lt_succ_iff_lt_or_eq.mp hi with h1 | h1
  ·exact h.all i y h1 hy
  subst h1; rw [hx] at hy; cases hy; exact hok
 have e : (ws.map numV).take (k + 1) = (ws.map numV).take k ++ [numV x] := G.take_of_get (by rw [List.getElem?_map, hx]; rfl)
 rw [e]
 refine G.OwnRow.of_owns hown fun g hgb => ?_
 rcases hv with e1 | e1
 ·rw [e1] at hgb; exact (h.row.block g hgb).1
 rw [e1] at hgb; cases hgb; simp; omega
theorem numsOk_all {ws : List ByteArray} {n : Nat} (hn : ws.length = n) (h : ∀ i x, i < n → ws[i]? = some x → nOk x = true) : numsOk ws n = true := by
 unfold numsOk
 rw [decide_eq_true hn, Bool.true_and, List.all_eq_true]
 intro x hx
 obtain ⟨i, hi⟩ := List.mem_iff_getElem?.1 hx
 exact h i x (by have := G.get_lt hi; omega) hi
theorem numsOk_bad {ws : List ByteArray} {n i : Nat} {x : ByteArray} (h : ws[i]? = some x) (hx : nOk x = false) : numsOk ws n = false := by
 unfold numsOk
 have : ws.all nOk = false := by rw [List.all_eq_false]; exact ⟨x, List.mem_of_getElem? h, by rw [hx]; simp⟩
 rw [this, Bool.and_false]
theorem numsOk_few {ws : List ByteArray} {n : Nat} (h : ws.length ≠ n) : numsOk ws n = false := by unfold numsOk; rw [decide_eq_false h]; rfl
theorem deskNumbers (v : Value) (ws : List ByteArray) (many : Nat) (w : World) (h : WdsIn w v ws) (hs : ∀ x ∈ ws, x.size ≤ 1000000) (hl : ws.length ≤ 1000000) (hm : many ≤ 100) :
  Calls Tryz.prog 49 #[v, .int .i64 (many : Int)] w (DNums ws many w) := by
 obtain ⟨A, cap, rfl, hcap, hA⟩ := h
 obtain ⟨i0, hi, hz0, hz1, hz2⟩ := info_parts bufInt_info
 have HA := J hA; have HSz := J hs
 have hl2 : (ws.length : Int) ≤ 1000000 := by omega
 clear hA hs
 by_cases hn : ws.length = many
 ·subst hn
  have e1 : ((ws.length : Int) != (ws.length : Int)) = false := by simp
  have HL := J hl
  clear hm
  go_enter Tryz.func49, Tryz.ntmps49
  go_wp2_with fail
  go_loopw [6, 18] (fun o i wr => ∃ k : Nat, k ≤ ws.length ∧ i = .int .i64 k ∧ Hid (DRun ws w wr k o)) (fun _ i _ => ws.length - (intOf i).toNat)
  case atStart => exact ⟨0, by omega, rfl, J ⟨fun i x hi => absurd hi (Nat.not_lt_zero _), G.OwnRow.nil _ _ _ _, Below.refl _ _⟩⟩
  obtain ⟨k, hk, rfl, HR⟩ := hrel
  obtain ⟨A2, cap2, rfl, _, _, _⟩ := HR.u.row.slice
  by_cases hlt : k < ws.length
  ·obtain ⟨b, off, rfl, hW⟩ := HA.u (by omega)
   obtain ⟨x, hx⟩ := G.get_some ws hlt
   have c0 : wr.cell? ⟨b, off + k, none⟩ = some (.string x) := (hW.below HR.u.bel).cell k x hx
   have HX := J hx
   have HSx := J (HSz.u x (List.mem_of_getElem? hx))
   have k0 : (0 : Int) ≤ (k : Int) := by omega
   have k1 : (k : Int) < (ws.length : Int) := by omega
   clear hW hx
   go_wp2_with fail
   refine (deskNumber x HSx.u _).mono ?_
   rintro e w2 ⟨rfl, rfl⟩
   cases hok : nOk x
   ·have HF := J (numsOk_bad (n := ws.length) HX.u hok)
    clear c0 hok
    go_wp2_with fail
    refine (check_err (e := 3) (by decide) _).mono ?_
    rintro e w3 ⟨v3, rfl, he, hb3⟩
    have HG := J (DNums.bad (many := ws.length) w3 v3 HF.u he (HR.u.bel.trans (hb3.mono HR.u.bel.size)))
    clear he hb3
    go_wp2_with fail
    go_ret2
    exact HG.u
   have HOk := J hok
   have hm3 := J (show k + 1 ≤ maxLen by have := HL.u; simp only [maxLen]; omega)
   have hm4 := J (show (k + 1) * 8 ≤ 140737488355328 by have := HL.u; omega)
   clear c0 hok
   go_wp2_with (at_builtin; refine wpList_append_lies _ (by rfl) (.tmp 30) (.tmp 32) 82 (by rfl) 0 3 i0 (.int .i64 0) 1 8 Tryz.underlying82 hi hz0 hz1 hz2 rfl (by decide) (.slice A2 k cap2) _ _ rfl (HR.u.row.alloc _).owns ⟨wr.heap.size, 0, none⟩ 1 1 [.int .i64 (nV x)] rfl rfl (G.new_cells wr _ _) (by simp [Value.oneCell']) (by decide) hm3.u hm4.u (Nat.zero_le _) _ rfl ?_)
   intro b2 cap3 w3 hown hg ho hlt2
   have HN := J (HR.u.next HX.u HOk.u hown hg (by
    rcases ho with e | e
    ·left; exact e.symm
    right; show some b2 = _; rw [e] <;> simp))
   clear hown hg ho hlt2
   go_wp2_with fail
   go_roundw
   case rel => exact ⟨k + 1, by omega, by go_num, HN⟩
   case measure => simp [intOf]; omega
  have hke : k = ws.length := by omega
  subst hke
  have hr := HR.u.row
  rw [List.take_of_length_le (by rw [List.length_map]; exact Nat.le_refl _)] at hr
  have HG := J (DNums.good (many := ws.length) wr _ (numsOk_all rfl HR.u.all) hr HR.u.bel)
  clear hr HR
  go_wp2_with fail
  go_ret2
  exact HG.u
 have e1 : ((ws.length : Int) != (many : Int)) = true := by simp; omega
 have HF := J (numsOk_few hn)
 clear hn
 go_enter Tryz.func49, Tryz.ntmps49
 go_wp2_with fail
 refine (check_err (e := 3) (by decide) _).mono ?_
 rintro e w3 ⟨v3, rfl, he, hb3⟩
 have HG := J (DNums.bad (many := many) w3 v3 HF.u he hb3)
 clear he hb3
 go_wp2_with fail
 go_ret2
 exact HG.u
open Go.RowKit
def InR (l : List G.Req) : Prop := ∀ r ∈ l, 0 ≤ r.source ∧ r.source ≤ 10 ∧ 0 ≤ r.fate ∧ r.fate ≤ 10
theorem inR_steps {l l' : List G.Req} (h : InR l) (hs : G.Steps l l') (e : l'.length = l.length) : InR l' := by
 intro r' hr
 obtain ⟨k, hk⟩ := List.mem_iff_getElem?.1 hr
 have hlt : k < l'.length := G.get_lt hk
 obtain ⟨a, ha⟩ := G.get_some l (i := k) (by omega)
 obtain ⟨r, h1, h2, _, h3⟩ := hs.2 k a ha
 rw [hk] at h1; cases h1
 have h4 := h a (List.mem_of_getElem? ha)
 rw [h2]
 refine ⟨h4.1, h4.2.1, ?_⟩
 rcases h3 with h3 | h3 | h3 | h3 | h3 <;> omega
def Wo.rng (m : Wo) : Prop := (0 ≤ m.target ∧ m.target ≤ 50) ∧ InR m.b
theorem rng_on {m : Wo} (h : m.rng) (hf : G.Fair m.b) : m.on.rng := by
 have hi := onN_inv (most := m.most) (fun b _ => G.Fair b ∧ InR b) (fun b f hP _ => ⟨(G.fair_run hP.1 _ _).1, inR_steps hP.2 (G.fair_run hP.1 _ _).2 (G.run_length _ _ _)⟩) m.b.length m.b m.f ⟨hf, h.2⟩
 exact ⟨h.1, hi.2⟩
theorem low_in {p : Pln} (hp : p.ok) (needed now have0 : Int) (b : Bool) : 0 ≤ lowOf p needed now have0 b := by
 have := hp.mn
 unfold lowOf; split
 ·omega
 split <;> omega
theorem lookN_in {l : Lp} {j : Nat} (h : l.ok j) (now sec have0 : Int) (rs : List Rd) (busy : Bool) : 0 ≤ lookN l now sec have0 rs busy ∧ lookN l now sec have0 rs busy ≤ 50 := by
 have hp := planE_ok h.plan
 have h1 := hp.mx
 have h2 := h.paus
 unfold lookN
 split
 ·omega
 split
 ·omega
 have h3 := low_in hp ((l.seen now rs).marked now ((l.seen now rs).told sec have0 rs busy).2).needed now have0 ((l.seen now rs).told sec have0 rs busy).2
 unfold clipOf; omega
theorem rng_tick {m : Wo} {j : Nat} (hm : m.ok j) (h : m.rng) (hn : m.now < 1099511627776) : m.tick.rng := by
 have hl := ok_late hm hn
 have h1 : m.late.rng := ⟨h.1, inR_steps h.2 (G.fair_late hm.fair _).2 (G.late_length _ _)⟩
 have h2 : m.late.seen.rng := by
  unfold Wo.seen; split
  ·exact ⟨lookN_in hl.lp _ _ _ _ _, h1.2⟩
  exact h1
 exact rng_on h2 (ok_seen hl).fair
theorem rng_ticks {m : Wo} {j : Nat} (hm : m.ok j) (h : m.rng) : ∀ n : Nat, m.now + n ≤ 1099511627776 → (ticksN n m).rng
 | 0, _ => h
 | n + 1, hn => rng_tick (ok_ticks hm n (by omega)) (rng_ticks hm h n (by omega)) (by rw [ticks_now]; omega)
theorem inR_ask {l : List G.Req} (h : InR l) (now s n : Int) : InR (G.askLst l now s n) := by
 unfold G.askLst; split
 ·rename_i he
  intro r hr
  rcases List.mem_append.1 hr with hr | hr
  ·exact h r hr
  obtain rfl := List.mem_singleton.1 hr
  unfold G.askErr at he
  split at he
  ·cases he
  split at he
  ·cases he
  show 0 ≤ s ∧ s ≤ 10 ∧ (0 : Int) ≤ 1 ∧ (1 : Int) ≤ 10; omega
 exact h
theorem rng_do {m : Wo} {j : Nat} (hm : m.ok j) (h : m.rng) (k a n : Int) : (doW m k a n).rng :=
 doW_elim Wo.rng h (fun _ he => by obtain ⟨h1, h2, h3⟩ := tickE_ok he; exact rng_ticks hm h n.toNat (by omega)) (fun _ => h) (fun _ => h) (fun _ => h) (fun _ => h) (fun _ => h) (fun _ _ => h) (fun _ => h)
  (fun _ _ => rng_on (m := { m with f := G.turnLst m.f n 2 3 }) h hm.fair)
  (fun _ _ => rng_on (m := { m with f := G.crashLst m.f n, b := G.lostLst m.b n }) ⟨h.1, inR_steps h.2 (G.fair_lost hm.fair _).2 (G.lost_length _ _)⟩ (G.fair_lost hm.fair _).1)
  (fun _ _ => rng_on (m := { m with b := G.askLst m.b m.now a n }) ⟨h.1, inR_ask h.2 _ _ _⟩ (G.fair_ask hm.fair _ _ _).1)
  (fun _ _ => rng_on (m := doneW m n) ⟨h.1, inR_steps h.2 (G.fair_done hm.fair _).2 (G.reqDone_length _ _)⟩ (G.fair_done hm.fair _).1) (fun _ => h)
theorem rng_new (p : Pln) (parts most sec : Int) : (newWo p parts most sec).rng := ⟨⟨Int.le_refl _, by show (0 : Int) ≤ 50; decide⟩, fun r hr => by cases hr⟩
def E10 (x : Int) : Prop := 0 ≤ x ∧ x ≤ 10
theorem e10_ite {c : Prop} [Decidable c] {a b : Int} (ha : E10 a) (hb : E10 b) : E10 (if c then a else b) := by split <;> assumption
theorem e10_ack (l : List G.Msg) (now id : Int) : E10 (G.ackErr l now id) := by
 unfold G.ackErr
 split
 ·split
  ·exact ⟨by decide, by decide⟩
  split
  ·split <;> exact ⟨by decide, by decide⟩
  exact ⟨by decide, by decide⟩
 exact ⟨by decide, by decide⟩
theorem e10_turn (l : List G.Pod) (id s : Int) : E10 (G.turnErr l id s) := by
 unfold G.turnErr
 split
 ·exact ⟨by decide, by decide⟩
 split
 ·exact ⟨by decide, by decide⟩
 split <;> exact ⟨by decide, by decide⟩
theorem e10_do (m : Wo) (k a n : Int) : E10 (doE m k a n) := by
 have l0 : E10 0 := ⟨by decide, by decide⟩
 have l1 : E10 1 := ⟨by decide, by decide⟩
 have l4 : E10 4 := ⟨by decide, by decide⟩
 have l6 : E10 6 := ⟨by decide, by decide⟩
 have l7 : E10 7 := ⟨by decide, by decide⟩
 unfold doE
 refine e10_ite (e10_ite l1 l0) (e10_ite (e10_ite l4 (e10_ite l1 l0)) (e10_ite ?_ (e10_ite (e10_ite l1 (e10_ite l6 l0)) (e10_ite ?_ (e10_ite (e10_ack _ _ _) (e10_ite (e10_ite l4 (e10_ite l1 l0)) (e10_ite (e10_turn _ _ _) (e10_ite (e10_turn _ _ _) (e10_ite ?_ (e10_ite (e10_ite l1 (e10_ite l4 (e10_ite l6 l0))) (e10_ite ?_ (e10_ite (e10_ite l1 l0) l1))))))))))))
 ·unfold takeErr; split
  ·exact l4
  split <;> assumption
 ·unfold G.leaseErr; split
  ·split <;> assumption
  exact l1
 ·unfold G.crashErr; split <;> assumption
 unfold G.doneErr; split
 ·exact l4
 split <;> assumption
theorem e10_trig (t : Trg) : E10 (trigE t) := by
 have l0 : E10 0 := ⟨by decide, by decide⟩
 have l1 : E10 1 := ⟨by decide, by decide⟩
 unfold trigE
 refine e10_ite (e10_ite l0 l1) (e10_ite (e10_ite ?_ l1) l1)
 unfold spanE Cr.err
 split
 ·split <;> assumption
 exact l1
theorem e10_trigs : ∀ l : List Trg, E10 (trigsE l)
 | [] => ⟨by decide, by decide⟩
 | t :: l => e10_ite (e10_trigs l) (e10_trig t)
theorem e10_plan (p : Pln) : E10 (planE p) := e10_ite ⟨by decide, by decide⟩ (e10_ite ⟨by decide, by decide⟩ (e10_ite ⟨by decide, by decide⟩ (e10_trigs _)))
theorem e10_new (p : Pln) (parts sec : Int) : E10 (newE p parts sec) := e10_ite (e10_plan p) (e10_ite ⟨by decide, by decide⟩ (e10_ite ⟨by decide, by decide⟩ ⟨by decide, by decide⟩))
theorem go_line : ∀ (f i : Nat) (p : Pln) (rest : ByteArray), (readGo f i p rest).2 ≤ i + f
 | 0, i, p, rest => Nat.le_refl _
 | f + 1, i, p, rest => by
  unfold readGo
  split
  ·exact Nat.zero_le _
  split
  ·show i + 1 ≤ _; omega
  split
  ·show i + 1 ≤ _; omega
  have := go_line f (i + 1) (by assumption) (G.cutY 10 rest); omega
theorem go_fit : ∀ (f i : Nat) (p : Pln) (rest : ByteArray) (q : Pln) (k : Nat), (∀ t ∈ p.trigs, t.fits) → readGo f i p rest = (some q, k) → ∀ t ∈ q.trigs, t.fits
 | 0, i, p, rest, q, k, _, h => by cases h
 | f + 1, i, p, rest, q, k, h0, h => by
  unfold readGo at h
  split at h
  ·cases h; exact h0
  split at h
  ·cases h
  split at h
  ·cases h
  rename_i p' hp
  exact go_fit f (i + 1) p' _ q k (lineN_fits h0 hp) h
theorem read_is (s : ByteArray) : (E10 (readR s).2.2 ∧ (readR s).2.1 ≤ 2049) ∧ (((readR s).2.2 = 0 ∧ planE (readR s).1 = 0 ∧ (∀ t ∈ (readR s).1.trigs, t.fits)) ∨ ((readR s).2.2 ≠ 0 ∧ (readR s).1 = zeroP)) := by
 unfold readR
 split
 ·exact ⟨⟨⟨by decide, by decide⟩, Nat.zero_le _⟩, .inr ⟨by decide, rfl⟩⟩
 rename_i hs
 split
 ·rename_i k h
  have := go_line (s.size + 1) 0 zeroP s
  rw [h] at this
  exact ⟨⟨⟨by show (0 : Int) ≤ 3; decide, by show (3 : Int) ≤ 10; decide⟩, by show k ≤ 2049; have : k ≤ 0 + (s.size + 1) := this; omega⟩, .inr ⟨by show (3 : Int) ≠ 0; decide, rfl⟩⟩
 rename_i p k h
 split
 ·rename_i he
  exact ⟨⟨⟨by show (0 : Int) ≤ 0; decide, by show (0 : Int) ≤ 10; decide⟩, Nat.zero_le _⟩, .inl ⟨rfl, he, go_fit _ _ _ _ _ _ (fun t ht => by cases ht) h⟩⟩
 rename_i he
 exact ⟨⟨e10_plan p, Nat.zero_le _⟩, .inr ⟨he, rfl⟩⟩
open Go.RowKit
def Dk.ok (d : Dk) (j : Nat) : Prop := d.text.size ≤ 2048 ∧ ∀ m, d.wo = some m → m.ok j ∧ m.rng
theorem Dk.ok.up {d : Dk} {j k : Nat} (h : d.ok j) (hk : j ≤ k) : d.ok k := ⟨h.1, fun m hm => ⟨(h.2 m hm).1.up hk, (h.2 m hm).2⟩⟩
theorem newE_inv {p : Pln} {parts sec : Int} (h : newE p parts sec = 0) : planE p = 0 ∧ 1 ≤ parts ∧ parts ≤ 20 ∧ -10000000000 ≤ sec ∧ sec ≤ 10000000000 := by
 unfold newE at h
 split at h
 ·rename_i h1; exact absurd h h1
 rename_i h1
 split at h
 ·cases h
 split at h
 ·cases h
 refine ⟨Decidable.not_not.1 h1, ?_⟩; omega
theorem doA_ok {d : Dk} {j : Nat} (h : d.ok j) (v : ByteArray) (ws : List ByteArray) : (doA d v ws).2.ok (j + 1000) := by
 have hu := h.up (show j ≤ j + 1000 by omega)
 have hh : (happenA d v ws).2.ok (j + 1000) := by
  unfold happenA
  split
  ·exact hu
  split
  ·exact hu
  rename_i m hm
  split
  ·exact hu
  refine ⟨h.1, fun m' hm' => ?_⟩
  obtain rfl := Option.some.inj (show some _ = some m' from hm')
  have := h.2 m hm
  exact ⟨ok_do this.1 _ _ _, rng_do this.1 this.2 _ _ _⟩
 unfold doA
 split
 ·exact hu
 split
 ·exact hu
 split
 ·unfold moreA
  split
  ·exact hu
  split
  ·exact hu
  refine ⟨by show (d.text ++ planLn ws).size ≤ 2048; rw [ByteArray.size_append]; omega, hu.2⟩
 split
 ·unfold madeA
  split
  ·exact hu
  split
  ·exact hu
  split
  ·exact hu
  rename_i h1 h2 h3
  have h3' := Decidable.not_not.1 h3
  have h4 := newE_inv h3'
  refine ⟨h.1, fun m' hm' => ?_⟩
  obtain rfl := Option.some.inj (show some _ = some m' from hm')
  rcases (read_is d.text).2 with ⟨_, _, hf⟩ | ⟨he, _⟩
  ·exact ⟨(ok_new h4.1 hf h4.2.2.1 h4.2.2.2.1 h4.2.2.2.2).up (by omega), rng_new _ _ _ _⟩
  exact absurd (Decidable.not_not.1 h2) he
 split
 ·split
  ·exact hu
  split
  ·exact hu
  exact ⟨by show (⟨#[]⟩ : ByteArray).size ≤ 2048; decide, hu.2⟩
 split
 ·exact hh
 split
 ·exact hh
 exact hu
def Ans.fine : Ans → Prop
 | .text s => s.size ≤ 2000000000
 | .fault e a => (-10 ≤ e ∧ e ≤ 10) ∧ -10 ≤ a ∧ a ≤ 10000
theorem itoS (n : Int) (h : -10000000000000 ≤ n ∧ n ≤ 10000000000000) : (G.itoB n).size ≤ 21 := G.itoB_size ⟨by omega, by omega⟩
theorem Ans.fine.le {a : Ans} (h : a.fine) : a.say.size ≤ 2000000000 := by
 cases a with
 | text s => exact h
 | fault e a =>
  obtain ⟨h1, h2⟩ := h
  have e1 := itoS e (by omega)
  have e2 := itoS a (by omega)
  have e3 : dkErr.size = 6 := rfl
  have e4 : (⟨#[32]⟩ : ByteArray).size = 1 := rfl
  show (if 0 ≤ a then (dkErr ++ G.itoB e) ++ (⟨#[32]⟩ ++ G.itoB a) else dkErr ++ G.itoB e).size ≤ _
  split
  ·simp only [ByteArray.size_append]; omega
  simp only [ByteArray.size_append]; omega
theorem fine_chk {e : Int} {s : ByteArray} (he : E10 e) (hs : s.size ≤ 2000000000) : (chk e s).fine := by
 unfold chk; split
 ·exact hs
 exact ⟨⟨by have := he.1; omega, he.2⟩, by decide, by decide⟩
theorem fine_err {e : Int} (he : E10 e) : (Ans.fault e (-1)).fine := ⟨⟨by have := he.1; omega, he.2⟩, by decide, by decide⟩
theorem join3 (c : UInt8) {a b d : ByteArray} (ha : a.size ≤ 21) (hb : b.size ≤ 21) (hd : d.size ≤ 21) : (G.joinB c [a, b, d]).size ≤ 66 :=
 G.joinB_size c (k := 21) (l := [a, b, d]) (by simp; omega)
theorem date_parts {s h : Int} (ho : okTime s h) : (-10000 ≤ G.yrOf ((s + 60 * h) / 86400) ∧ G.yrOf ((s + 60 * h) / 86400) ≤ 10000) ∧ (0 ≤ G.moOf ((s + 60 * h) / 86400) ∧ G.moOf ((s + 60 * h) / 86400) ≤ 100) ∧ (0 ≤ G.dyOf ((s + 60 * h) / 86400) ∧ G.dyOf ((s + 60 * h) / 86400) ≤ 100) ∧ (0 ≤ (s + 60 * h) % 86400 / 3600 ∧ (s + 60 * h) % 86400 / 3600 ≤ 100) ∧ (0 ≤ (s + 60 * h) % 86400 / 60 % 60 ∧ (s + 60 * h) % 86400 / 60 % 60 ≤ 100) ∧ (0 ≤ (s + 60 * h) % 86400 % 60 ∧ (s + 60 * h) % 86400 % 60 ≤ 100) ∧ 0 ≤ ((s + 60 * h) / 86400 + 4) % 7 ∧ ((s + 60 * h) / 86400 + 4) % 7 ≤ 100 := by
 obtain ⟨b0, b1, b2, b3⟩ := ho
 have y0 := G.yrOf_lo (n := (s + 60 * h) / 86400) (y := -4000) (by rw [G.years_1970]; unfold G.years; omega)
 have y1 := G.yrOf_hi (n := (s + 60 * h) / 86400) (y := 8000) (by rw [G.years_1970]; unfold G.years; omega)
 obtain ⟨v1, v2, v3, v4⟩ := G.date_valid ((s + 60 * h) / 86400)
 have v5 : G.long (G.yrOf ((s + 60 * h) / 86400)) (G.moOf ((s + 60 * h) / 86400)) ≤ 31 := by
  unfold G.long; repeat' split
  all_goals omega
 refine ⟨by omega, by omega, by omega, by omega, by omega, by omega, by omega⟩
theorem date_size {s h : Int} (ho : okTime s h) : (dateTxt s h).size ≤ 200 := by
 obtain ⟨h1, h2, h3, h4, h5, h6, h7⟩ := date_parts ho
 have j1 := join3 45 (itoS _ (by omega : -10000000000000 ≤ G.yrOf ((s + 60 * h) / 86400) ∧ _ ≤ (10000000000000 : Int))) (itoS _ (by omega : -10000000000000 ≤ G.moOf ((s + 60 * h) / 86400) ∧ _ ≤ (10000000000000 : Int))) (itoS _ (by omega : -10000000000000 ≤ G.dyOf ((s + 60 * h) / 86400) ∧ _ ≤ (10000000000000 : Int)))
 have j2 := join3 58 (itoS _ (by omega : -10000000000000 ≤ (s + 60 * h) % 86400 / 3600 ∧ _ ≤ (10000000000000 : Int))) (itoS _ (by omega : -10000000000000 ≤ (s + 60 * h) % 86400 / 60 % 60 ∧ _ ≤ (10000000000000 : Int))) (itoS _ (by omega : -10000000000000 ≤ (s + 60 * h) % 86400 % 60 ∧ _ ≤ (10000000000000 : Int)))
 have j3 := itoS (((s + 60 * h) / 86400 + 4) % 7) (by omega)
 have e4 : (⟨#[32]⟩ : ByteArray).size = 1 := rfl
 unfold dateTxt
 simp only [ByteArray.size_append]; omega
theorem seek_in (c : Cr) (s h : Int) : -100000000000 ≤ c.seekN s h 1 ∧ c.seekN s h 1 ≤ 100000000000 := by
 unfold Cr.seekN
 split
 ·cases e : c.seekO s h 1 with
  | none => simp
  | some n =>
   unfold Cr.seekO at e
   split at e
   ·cases e
   unfold inTime at e
   split at e
   ·cases e
   split at e
   ·cases e
   cases e; simp only [Option.getD_some]; omega
 omega
theorem e10_code (s : ByteArray) : E10 (G.cronCode s) := e10_ite ⟨by decide, by decide⟩ (e10_ite ⟨by decide, by decide⟩ ⟨by decide, by decide⟩)
theorem e10_seek (c : Cr) (s h : Int) : E10 (c.seekE s h) := e10_ite (e10_ite ⟨by decide, by decide⟩ ⟨by decide, by decide⟩) ⟨by decide, by decide⟩
theorem text_in {p : Pln} (h : planE p = 0) : p.text.size ≤ 30000 := by
 have := Pln.up2_size (planE_fine h) p.trigs.length
 unfold Pln.up2 at this
 rw [List.take_length] at this
 exact this
theorem show_in (d : Dk) : ((if planE (readR d.text).1 = 0 then (readR d.text).1.text else ⟨#[]⟩) ++ dkOk).size ≤ 40000 := by
 rw [ByteArray.size_append]
 have e : dkOk.size = 2 := rfl
 split
 ·rename_i h; have := text_in h; omega
 have e2 : (⟨#[]⟩ : ByteArray).size = 0 := rfl; omega
theorem fine_show (d : Dk) : (showA d).fine := by
 have h1 := (read_is d.text).1
 unfold showA
 split
 ·exact ⟨⟨by have := h1.1.1; omega, h1.1.2⟩, by omega, by omega⟩
 exact fine_chk (e10_plan _) (by have := show_in d; omega)
theorem pod_in {p : G.Pod} (h1 : -10000000000000 ≤ p.id ∧ p.id ≤ 10000000000000) (h2 : -10000000000000 ≤ p.state ∧ p.state ≤ 10000000000000) (h3 : -10000000000000 ≤ p.load ∧ p.load ≤ 10000000000000) : (podTxt p).size ≤ 70 := by
 have := itoS _ h1; have := itoS _ h2; have := itoS _ h3
 have e4 : (⟨#[58]⟩ : ByteArray).size = 1 := rfl
 unfold podTxt
 simp only [ByteArray.size_append]; omega
theorem req_in {r : G.Req} (h : 0 ≤ r.source ∧ r.source ≤ 10 ∧ 0 ≤ r.fate ∧ r.fate ≤ 10) : (reqTxt r).size ≤ 70 := by
 have := itoS r.source (by omega); have := itoS r.fate (by omega)
 have e4 : (⟨#[58]⟩ : ByteArray).size = 1 := rfl
 unfold reqTxt
 simp only [ByteArray.size_append]; omega
theorem pods_in {m : Wo} {j : Nat} (h : m.ok j) (hj : j ≤ 284000) : ∀ p ∈ m.f, (-10000000000000 ≤ p.id ∧ p.id ≤ 10000000000000) ∧ (-10000000000000 ≤ p.state ∧ p.state ≤ 10000000000000) ∧ (-10000000000000 ≤ p.load ∧ p.load ≤ 10000000000000) := by
 intro p hp
 have h1 := h.crew.ids p hp; have h2 := h.crew.states p hp; have h3 := h.crew.loads p hp; have h4 := h.fl1; have h5 := h.most1
 omega
theorem state_words {m : Wo} {j : Nat} (h : m.ok j) (hr : m.rng) (hj : j ≤ 284000) : (∀ x ∈ G.itoB m.now :: G.itoB m.target :: m.f.map podTxt, x.size ≤ 70) ∧ (G.itoB m.now :: G.itoB m.target :: m.f.map podTxt).length ≤ 14200002 := by
 refine ⟨fun x hx => ?_, ?_⟩
 ·rw [List.mem_cons, List.mem_cons] at hx
  rcases hx with rfl | rfl | hx
  ·have := itoS m.now (by have := h.now0; have := h.now1; omega); omega
  ·have := itoS m.target (by have := hr.1; omega); omega
  obtain ⟨p, hp, rfl⟩ := List.mem_map.1 hx
  have := pods_in h hj p hp
  exact pod_in this.1 this.2.1 this.2.2
 have := h.fn; simp only [List.length_cons, List.length_map]; omega
theorem state_size {m : Wo} {j : Nat} (h : m.ok j) (hr : m.rng) (hj : j ≤ 284000) : (stateT m).size ≤ 2000000000 := by
 obtain ⟨h1, h2⟩ := state_words h hr hj
 have h3 := G.joinB_size 32 h1
 unfold stateT
 have := Nat.mul_le_mul_left (70 + 1) h2
 omega
theorem asks_size {m : Wo} {j : Nat} (h : m.ok j) (hr : m.rng) : (asksT m).size ≤ 2000000000 := by
 unfold asksT
 split
 ·show dkNone.size ≤ _; decide
 have h3 := G.joinB_size 32 (l := m.b.map reqTxt) (k := 70) (fun x hx => by obtain ⟨r, hr2, rfl⟩ := List.mem_map.1 hx; exact req_in (hr.2 r hr2))
 rw [List.length_map] at h3
 have := h.bn
 have := Nat.mul_le_mul_left (70 + 1) this
 omega
theorem fine_happen {d : Dk} {j : Nat} (h : d.ok j) (hj : j ≤ 284000) (v : ByteArray) (ws : List ByteArray) : (happenA d v ws).1.fine := by
 unfold happenA
 split
 ·exact fine_err ⟨by decide, by decide⟩
 split
 ·exact fine_err ⟨by decide, by decide⟩
 rename_i m hm
 have hk := h.2 m hm
 split
 ·show (if v = vState then stateT m else asksT m).size ≤ _
  split
  ·exact state_size hk.1 hk.2 hj
  exact asks_size hk.1 hk.2
 exact fine_chk (e10_do _ _ _ _) (by show dkOk.size ≤ _; decide)
theorem doA_fine {d : Dk} {j : Nat} (h : d.ok j) (hj : j ≤ 284000) (v : ByteArray) (ws : List ByteArray) : (doA d v ws).1.fine := by
 have hok : (Ans.text dkOk).fine := by show dkOk.size ≤ _; decide
 have h3 : (Ans.fault 3 (-1)).fine := fine_err ⟨by decide, by decide⟩
 have hh := fine_happen h hj v ws
 unfold doA
 split
 ·show (dateA ws).fine
  unfold dateA
  split
  ·split
   ·rename_i ho
    have := date_size ho
    show (dateTxt _ _).size ≤ _; omega
   exact fine_err ⟨by decide, by decide⟩
  exact h3
 split
 ·show (nextA ws).fine
  unfold nextA
  split
  ·exact h3
  split
  ·exact h3
  split
  ·exact fine_err (e10_code _)
  split
  ·show dkNone.size ≤ _; decide
  have := seek_in (crOf (G.joinB 32 (ws.drop 2))) (argV ws 0) (argV ws 1)
  exact fine_chk (e10_seek _ _ _) (by have := itoS ((crOf (G.joinB 32 (ws.drop 2))).seekN (argV ws 0) (argV ws 1) 1) (by omega); omega)
 split
 ·unfold moreA
  split
  ·exact h3
  split
  ·exact fine_err ⟨by decide, by decide⟩
  exact hok
 split
 ·unfold madeA
  have h1 := (read_is d.text).1
  split
  ·exact h3
  split
  ·exact ⟨⟨by have := h1.1.1; omega, h1.1.2⟩, by omega, by omega⟩
  split
  ·exact fine_err (e10_new _ _ _)
  exact hok
 split
 ·split
  ·exact h3
  split
  ·exact fine_show d
  exact hok
 split
 ·exact hh
 split
 ·exact hh
 exact h3
open Go.RowKit
structure TrS (w0 W : World) (R : Option Pln × Nat) (m : Int) (g gp : Nat) (v : Value) (i : Nat) (p : Pln) (rest : ByteArray) : Prop where
 reads : Reads i p rest R
 plan : G.At W gp 101 (plnC p v)
 own : G.OwnRow (fun b => w0.heap.size ≤ b ∧ b ≠ g ∧ b ≠ gp) W 171 17 v p.trigs.length (p.trigs.flatMap Trg.enc)
 rd : G.At W g 146 #[.string rest, .int .i64 (i : Int)]
 mx : W.cell? ⟨0, 0, none⟩ = some (.int .i64 m)
 mb : 0 < w0.heap.size
 below : Below w0.heap.size w0 W
 size : i + rest.size ≤ 3000
 many : p.trigs.length ≤ i
 fits : ∀ t ∈ p.trigs, t.fits
 ne : gp ≠ g
 og : w0.heap.size ≤ g ∧ w0.heap.size ≤ gp
def BadT (w0 W : World) (R : Option Pln × Nat) (g : Nat) : Prop := ∃ (k : Nat) (rest : ByteArray), R = (none, k) ∧ G.At W g 146 #[.string rest, .int .i64 (k : Int)] ∧ Below w0.heap.size w0 W
def TrigPost (w0 : World) (R : Option Pln × Nat) (m : Int) (g gp : Nat) (i : Nat) (sz : Nat) (e : Ending) (W' : World) : Prop :=
 ∃ b, e = .returned (.bool b) ∧ (b = true → ∃ p rest v, TrS w0 W' R m g gp v (i + 1) p rest ∧ rest.size < sz) ∧ (b = false → BadT w0 W' R g)
structure TrgMid (W wx : World) (gt : Nat) (ok : Bool) (ws : List ByteArray) : Prop where
 at_ : ∃ t, G.At wx gt 171 (trgA t) ∧ (ok = true → trigN ws = some t)
 chg : G.Chg (fun b => b = gt) W wx
theorem TrgMid.below {W wx wy : World} {gt : Nat} {ok : Bool} {ws : List ByteArray} (h : TrgMid W wx gt ok ws) (hb : Below wx.heap.size wx wy) : TrgMid W wy gt ok ws := by
 obtain ⟨t, h1, h2⟩ := h.at_
 exact ⟨⟨t, h1.below hb h1.inside, h2⟩, h.chg.step_below hb h.chg.size⟩
theorem line_more {i : Nat} {p : Pln} {ws : List ByteArray} (h : 4 ≤ i) : lineN i p ws = (trigN ws).map fun t => { p with trigs := p.trigs ++ [t] } := by
 obtain ⟨j, rfl⟩ : ∃ j, i = j + 4 := ⟨i - 4, by omega⟩
 rfl
theorem trig_lag {ws : List ByteArray} (h : G.pieceAt ws 0 = wdLag) : trigN ws = twoN 1 ws := if_pos h
theorem trig_depth {ws : List ByteArray} (h : G.pieceAt ws 0 = wdDepth) : trigN ws = twoN 2 ws := by unfold trigN; rw [h, if_neg (by decide), if_pos rfl]
theorem trig_span {ws : List ByteArray} (h : G.pieceAt ws 0 = wdSpan) : trigN ws = timedN ws := by unfold trigN; rw [h, if_neg (by decide), if_neg (by decide), if_pos rfl]
theorem trig_else {ws : List ByteArray} (h1 : G.pieceAt ws 0 ≠ wdLag) (h2 : G.pieceAt ws 0 ≠ wdDepth) (h3 : G.pieceAt ws 0 ≠ wdSpan) : trigN ws = none := by unfold trigN; rw [if_neg h1, if_neg h2, if_neg h3]
theorem two_cells (kind : Int) (ws : List ByteArray) (k : Nat) (hk : k ≤ 2) : ∃ t, setK (trgA ⟨kind, 0, 0, crZ, crZ⟩) [1, 2] (ws.drop 1) k = trgA t ∧ (k = 2 → t = ⟨kind, wV (G.pieceAt ws 1), wV (G.pieceAt ws 2), crZ, crZ⟩) := by
 have e : ∀ i, G.pieceAt (ws.drop 1) i = G.pieceAt ws (1 + i) := fun i => by
  unfold G.pieceAt
  rw [List.getD_eq_getElem?_getD, List.getD_eq_getElem?_getD, List.getElem?_drop]
 rcases (show k = 0 ∨ k = 1 ∨ k = 2 by omega) with rfl | rfl | rfl
 ·exact ⟨_, rfl, by simp⟩
 ·refine ⟨⟨kind, wV (G.pieceAt ws 1), 0, crZ, crZ⟩, ?_, by simp⟩
  simp only [setK, e]; rfl
 refine ⟨_, ?_, fun _ => rfl⟩
 simp only [setK, e]; rfl
theorem readTwo (kind : Int) (ws : List ByteArray) (bw gt : Nat) (W W' : World) (bt capt : Nat) (n : Nat) (hn : ws.length = n) (hw : WdsAt W' bw 0 ws) (hg : G.At W' gt 171 (trgA ⟨kind, 0, 0, crZ, crZ⟩)) (hp : G.At W' bt 208 (ptrs gt [1, 2])) (hc : G.Chg (fun b => b = gt) W W') (n1 : bw ≠ gt) (n3 : bt ≠ gt) (hs : ∀ x ∈ ws, x.size ≤ 1000000) (h0 : 1 ≤ n) (hl : n ≤ 1000001) (off : Nat) (hoff : (n = 1 ∧ off = 0) ∨ (1 < n ∧ off = 1)) :
  Calls Tryz.prog 116 #[.slice (some ⟨bw, off, none⟩) (n - 1) (n - 1), .slice (some ⟨bt, 0, none⟩) 2 capt] W' fun e w' => e = .returned (.bool (twoN kind ws).isSome) ∧ (∃ t, G.At w' gt 171 (trgA t) ∧ ((twoN kind ws).isSome = true → twoN kind ws = some t)) ∧ G.Chg (fun b => b = gt) W w' := by
 have hsome : (twoN kind ws).isSome = wordsOk (ws.drop 1) 2 := by unfold twoN; cases wordsOk (ws.drop 1) 2 <;> rfl
 have hcall : Calls Tryz.prog 116 #[.slice (some ⟨bw, off, none⟩) (n - 1) (n - 1), .slice (some ⟨bt, 0, none⟩) 2 capt] W' (NumsPost W' gt 171 (trgA ⟨kind, 0, 0, crZ, crZ⟩) [1, 2] (ws.drop 1)) := by
  have hd : WdsAt W' bw off (ws.drop 1) := by
   rcases hoff with ⟨h1, rfl⟩ | ⟨h1, rfl⟩
   ·rw [List.drop_eq_nil_of_le (by omega)]; exact hw.take 0
   have := hw.drop 1; rwa [Nat.zero_add] at this
  have h9 := planRead (ws.drop 1) [1, 2] bw off (n - 1) bt capt gt 171 (trgA ⟨kind, 0, 0, crZ, crZ⟩) W' hd hp hg (by intro o ho; show o < 17; revert o; decide) n1 n3 (fun x hx => hs x (List.mem_of_mem_drop hx)) (by decide) (by rw [List.length_drop]; omega)
  rw [List.length_drop, hn] at h9
  exact h9
 refine hcall.mono ?_
 rintro e w' ⟨he, ⟨k, hk, hat, hkk⟩, hc2⟩
 obtain ⟨t, ht, ht2⟩ := two_cells kind ws k hk
 rw [ht] at hat
 refine ⟨by rw [he, hsome]; rfl, ⟨t, hat, fun h => ?_⟩, hc.trans hc2⟩
 rw [hsome] at h
 rw [ht2 (hkk h)]
 exact if_pos h
theorem word_ne {x : ByteArray} {y : ByteArray} {l : List UInt8} (hy : y.toList = l) (h : x ≠ y) : (x.toList == l) = false := by
 have := same_words x y
 rw [decide_eq_false h, hy] at this
 exact this
theorem word_eq {x : ByteArray} {y : ByteArray} {l : List UInt8} (hy : y.toList = l) (h : x = y) : (x.toList == l) = true := by rw [h, hy]; simp
end Go.Proofs.YtoidcbpcnikejaaGreatDoor
