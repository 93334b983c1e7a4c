/- The contract of the reference's wholes. -/
import Derived.Test.YthelnkoohbnjpaaDoorPrdC
import Derived.Test.YthelnkoohbnjpaaDoorWhlC
import Derived.Test.YthelnkoohbnjpaaDoorRdiC
set_option linter.unusedVariables false
set_option linter.unusedSimpArgs false
namespace Go.Proofs.YthelnkoohbnjpaaDoor
open Go.RowKit
set_option linter.unusedVariables false
def numsV (ws : List ByteArray) : List Value := ws.map fun x => Value.int .i64 (wV x)
/-- numbers of words, or nothing -/
def WhsPost (w : World) (ws : List ByteArray) (n : Nat) (e : Ending) (w' : World) : Prop :=
  ∃ v, e = .returned v ∧ (wordsOk ws n = true → Tide.OwnRow (fun b => w.heap.size ≤ b) w' 3 1 v n (numsV ws)) ∧ (wordsOk ws n = false → v = .slice none 0 0) ∧ Below w.heap.size w w'
structure WhsAt (w wr : World) (ws : List ByteArray) (v : Value) (k : Nat) : Prop where
  own : Tide.OwnRow (fun b => w.heap.size ≤ b) wr 3 1 v k (numsV (ws.take k))
  below : Below w.heap.size w wr
  ok : firstOk ws k
set_option maxRecDepth 100000 in
set_option maxHeartbeats 3200000 in
theorem refWholes (ws : List ByteArray) (bw off cap n : Nat) (w : World) (hw : WdsAt w bw off ws) (hs : ∀ x ∈ ws, x.size ≤ 1000000) (hl : ws.length ≤ 1000001) (hn : n ≤ 8) :
    Calls Tryd.prog 66 #[.slice (some ⟨bw, off, none⟩) ws.length cap, .int .i64 (n : Int), .int .i64 7] w (WhsPost w ws n) := by
  have hl2 : (ws.length : Int) ≤ 1000001 := by omega
  have hn2 : (n : Int) ≤ 8 := by omega
  by_cases he : ws.length = n
  · have HN := Lib.hid (fun x (hx : x ∈ ws) (W : World) => refWhole x (hs x hx) W)
    have H0 := Lib.hid (show WhsAt w w ws (.slice none 0 0) 0 from ⟨Tide.OwnRow.nil _ _ _ _, Below.refl _ _, fun i x hi => by omega⟩)
    have HWc := Lib.hid (fun (W : World) (hb : Below w.heap.size w W) => hw.below hb)
    have HEq := Lib.hid he
    have HFin := Lib.hid (fun (v : Value) (W : World) (h : WhsAt w W ws v n) => (⟨v, rfl, (fun _ => by have := h.own; rwa [show ws.take n = ws by rw [← he, List.take_length]] at this), (fun q => by rw [words_all he h.ok] at q; cases q), h.below⟩ : WhsPost w ws n (.returned v) W))
    have HBad := Lib.hid (fun (k : Nat) (x : ByteArray) (W : World) (hx : ws[k]? = some x) (hk : wOk x = false) (hb : Below w.heap.size w W) => (⟨_, rfl, (fun q => by rw [words_bad hx hk] at q; cases q), fun _ => rfl, hb⟩ : WhsPost w ws n (.returned (.slice none 0 0)) W))
    obtain ⟨ii, hif, hz0, hz1, hz2⟩ := info_split itemInfo
    have hnb : ((ws.length : Int) != (n : Int)) = false := by rw [he]; simp
    clear hw hs hl hn he
    go_enter Tryd.func66, Tryd.ntmps66
    go_wp2_with fail
    go_loopw [7, 8] (fun v i wr => ∃ k : Nat, k ≤ n ∧ i = .int .i64 k ∧ Hid (WhsAt w wr ws v k)) (fun _ i _ => n - (intOf i).toNat)
    case atStart => exact ⟨0, Nat.zero_le _, rfl, H0⟩
    case round =>
      clear H0
      obtain ⟨k, hk, rfl, HK⟩ := hrel
      obtain ⟨A, capk, rfl, _, _, _⟩ := HK.out.own.slice
      by_cases hlt : k < n
      · obtain ⟨x, hx⟩ := Tide.get_some ws (show k < ws.length by have := HEq.out; omega)
        have k0 : (0 : Int) ≤ (k : Int) := by omega
        have k1 : (k : Int) < (n : Int) := by omega
        have k2 : (k : Int) < (ws.length : Int) := by have := HEq.out; omega
        have c0 : wr.cell? ⟨bw, off + k, none⟩ = some (.string x) := (HWc.out _ HK.out.below).cell k x hx
        have HNx := Lib.hid (HN.out x (List.mem_of_getElem? hx) wr)
        have HX := Lib.hid hx
        have HLt := Lib.hid hlt
        clear hx hlt
        cases hok : wOk x
        · have HF := Lib.hid (HBad.out k x wr HX.out hok HK.out.below)
          unfold WholePost at HNx
          rw [hok] at HNx
          clear HK hok
          go_wp2_with fail
          refine HNx.out.mono ?_
          rintro e w1 ⟨rfl, rfl⟩
          go_wp2_with fail
          go_ret
          exact HF.out
        · have HO := Lib.hid (HK.out.own.alloc (.cells #[.int .i64 (wV x)] 3))
          have HB := Lib.hid (HK.out.below.alloc HK.out.below.size (.cells #[.int .i64 (wV x)] 3))
          have hm3 := Lib.hid (show k + 1 ≤ maxLen by simp only [maxLen]; omega)
          have hm4 := Lib.hid (show (k + 1) * 8 ≤ 140737488355328 by omega)
          have HSn := Lib.hid (show numsV (ws.take (k + 1)) = numsV (ws.take k) ++ [.int .i64 (wV x)] by unfold numsV; rw [List.take_add_one, HX.out, List.map_append]; rfl)
          have HOk := Lib.hid (firstOk_next HK.out.ok HX.out hok)
          unfold WholePost at HNx
          rw [hok] at HNx
          clear HK hok
          generalize wV x = V at HNx HO HB HSn
          go_wp2_with fail
          refine HNx.out.mono ?_
          rintro e w1 ⟨rfl, rfl⟩
          go_wp2_with (at_builtin; refine wpList_append_lies _ (by rfl) (.tmp 31) (.tmp 33) 69 (by rfl) 0 3 ii (.int .i64 0) 1 8 Tryd.underlying69 hif hz0 hz1 hz2 rfl (by decide) (.slice A k capk) _ _ rfl HO.out.owns ⟨wr.heap.size, 0, none⟩ 1 1 [.int .i64 V] rfl rfl (Tide.new_one rfl) (by simp [Value.oneCell']) (by decide) hm3.out hm4.out (Nat.zero_le _) _ rfl ?_)
          intro b2 cap2 w5 hown hg ho hlt2
          obtain ⟨r1, r2⟩ := HO.out.app hown hg (ho.imp id (fun e => e.trans (by simp))) hlt2
          have HNx2 := Lib.hid (show WhsAt w w5 ws (.slice (some ⟨b2, 0, none⟩) (k + 1) cap2) (k + 1) from ⟨by
            rw [HSn.out]
            exact r1.mono (fun b _ hb => by
              have := HB.out.size
              rcases hb with hb | hb
              · exact hb
              · omega), HB.out.trans (r2.below HB.out.size (fun b hb h => by omega)), HOk.out⟩)
          clear hown hg ho hlt2 r1 r2 HO HB
          go_wp2_with fail
          go_roundw
          case rel => exact ⟨k + 1, by have := HLt.out; omega, by go_num, HNx2⟩
          case measure => have := HLt.out; simp [intOf]; omega
      · have hke : k = n := by omega
        subst hke
        have HF := Lib.hid (HFin.out _ _ HK.out)
        clear HK hk hlt
        go_wp2_with fail
        go_ret
        exact HF.out
  · have HF := Lib.hid (⟨_, rfl, (fun q => by rw [words_few he] at q; cases q), fun _ => rfl, Below.refl _ _⟩ : WhsPost w ws n (.returned (.slice none 0 0)) w)
    have hnb : ((ws.length : Int) != (n : Int)) = true := by simp; omega
    clear hw hs hl hn he
    go_enter Tryd.func66, Tryd.ntmps66
    go_wp2_with fail
    go_ret
    exact HF.out
end Go.Proofs.YthelnkoohbnjpaaDoor
