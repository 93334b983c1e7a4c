/- The contract of the reference's Pieces. -/
import Derived.Test.YthelnkoohbnjpaaDoorRdnC
import Derived.Test.YthelnkoohbnjpaaDoorZBase
import Derived.Deep.AppendLies
import Derived.Deep.RegionLaw
set_option linter.unusedVariables false
set_option linter.unusedSimpArgs false
namespace Go.Proofs.YthelnkoohbnjpaaDoor
open Go.RowKit
set_option linter.unusedVariables false
def PiecesPost (c : UInt8) (s : ByteArray) (w : World) (e : Ending) (w' : World) : Prop :=
  ∃ (v : Value) (ps : List ByteArray), e = .returned v ∧ ps.map (fun x : ByteArray => x.data.toList) = Tide.pieces c s.data.toList ∧ Tide.OwnRow (fun b => w.heap.size ≤ b) w' 9 1 v ps.length (ps.map Value.string) ∧ Below w.heap.size w w'
theorem info_text : (Tryd.prog.info? 9).map (fun i => (i.zero, i.size, i.bytes)) = some (some (.string ByteArray.empty), 1, 16) := by kernel_rfl
theorem info_split {i : Option TypeInfo} {z : Option Value} {s b : Nat} (h : i.map (fun i => (i.zero, i.size, i.bytes)) = some (z, s, b)) : ∃ j, i = some j ∧ j.zero = z ∧ j.size = s ∧ j.bytes = b := by
  cases i with
  | none => cases h
  | some j => simp only [Option.map_some, Option.some.injEq, Prod.mk.injEq] at h; exact ⟨j, rfl, h.1, h.2.1, h.2.2⟩
theorem append_one {p s : ByteArray} {k : Nat} {b : UInt8} (h : s.data.toList[k]? = some b) : (p ++ s.extract k (k + 1)).data.toList = p.data.toList ++ [b] := by
  rw [ByteArray.data_append, Array.toList_append, ByteArray.data_extract, Array.toList_extract]
  congr 1
  obtain ⟨h1, h2⟩ := List.getElem?_eq_some_iff.1 h
  rw [List.extract_eq_take_drop, List.drop_eq_getElem_cons h1, h2]
  simp
/-- the pieces of the first k bytes -/
structure PcRun (c : UInt8) (s : ByteArray) (w wr : World) (g cap k : Nat) (ps : List ByteArray) : Prop where
  data : ps.map (fun x : ByteArray => x.data.toList) = Tide.pieces c (s.data.toList.take k)
  row : Tide.OwnRow (fun b => w.heap.size ≤ b) wr 9 1 (.slice (some ⟨g, 0, none⟩) ps.length cap) ps.length (ps.map Value.string)
  below : Below w.heap.size w wr
theorem PcRun.pos {c : UInt8} {s : ByteArray} {w wr : World} {g cap k : Nat} {ps : List ByteArray} (h : PcRun c s w wr g cap k ps) : 0 < ps.length := by
  have := congrArg List.length h.data
  rw [List.length_map] at this
  rw [this]; exact Tide.pieces_pos c _
theorem PcRun.few {c : UInt8} {s : ByteArray} {w wr : World} {g cap k : Nat} {ps : List ByteArray} (h : PcRun c s w wr g cap k ps) : ps.length ≤ s.size + 1 := by
  have := congrArg List.length h.data
  rw [List.length_map, Tide.pieces_many] at this
  have h2 := List.count_le_length (a := c) (l := s.data.toList.take k)
  rw [List.length_take, ← Tide.ba_size] at h2
  omega
set_option maxRecDepth 100000 in
set_option maxHeartbeats 6400000 in
theorem refPieces (c : UInt8) (s : ByteArray) (hs : s.size ≤ 1000000) (w : World) : Calls Tryd.prog 29 #[.string s, .int .u8 (c.toNat : Int)] w (PiecesPost c s w) := by
  have hs2 : (s.size : Int) ≤ 1000000 := by omega
  obtain ⟨i0', hi, hz0, hz1, hz2⟩ := info_split info_text
  have HS2 := Lib.hid hs
  have HZ := Lib.hid (Tide.ba_size s)
  have H0 := Lib.hid (show PcRun c s w (w.alloc (.cells #[.string ⟨#[]⟩] 9)) w.heap.size 1 0 [⟨#[]⟩] from
    ⟨rfl, ⟨rfl, .inr ⟨w.heap.size, 1, rfl, Nat.le_refl _, Nat.le_refl _, by decide, _, Tide.At.made w _ _, rfl, Nat.le_refl _, rfl⟩⟩, (Below.refl _ _).alloc (Nat.le_refl _) _⟩)
  clear hs
  go_enter Tryd.func29, Tryd.ntmps29
  go_upto_region 2 with fail
  generalize w.alloc (.cells #[.string ⟨#[]⟩] 9) = W1 at H0 ⊢
  go_wp2_with fail
  go_loopw [5, 6] (fun v i wr => ∃ k : Nat, k ≤ s.size ∧ i = .int .i64 k ∧ ∃ g cap ps, v = .slice (some ⟨g, 0, none⟩) (List.length ps) cap ∧ Hid (PcRun c s w wr g cap k ps)) (fun _ i _ => s.size - (intOf i).toNat)
  case atStart => exact ⟨0, by omega, rfl, _, _, [⟨#[]⟩], rfl, H0⟩
  case round =>
    clear H0
    obtain ⟨k, hk, rfl, g, cap, ps, rfl, HK⟩ := hrel
    have i0 : (0 : Int) ≤ (k : Int) := by omega
    by_cases hlt : k < s.size
    · have i1 : (k : Int) < (s.size : Int) := by omega
      obtain ⟨b, hb, hx⟩ := byte_get hlt
      have e7 := byte_at hlt
      rw [hx] at e7
      have hsn := Tide.pieces_snoc c b (s.data.toList.take k)
      rw [← Tide.take_of_get hb] at hsn
      have HSn := Lib.hid hsn
      have HLt := Lib.hid hlt
      have hpos := HK.out.pos
      have hfew := HK.out.few
      clear hsn
      by_cases hbc : b = c
      · subst hbc
        rw [if_pos rfl] at HSn
        have HO := Lib.hid (HK.out.row.alloc (.cells #[.string ByteArray.empty] 9))
        have HB := Lib.hid (HK.out.below.alloc HK.out.below.size (.cells #[.string ByteArray.empty] 9))
        have hm3 := Lib.hid (show ps.length + 1 ≤ maxLen by have := HS2.out; simp only [maxLen]; omega)
        have hm4 := Lib.hid (show (ps.length + 1) * 16 ≤ 140737488355328 by have := HS2.out; omega)
        have HD := Lib.hid HK.out.data
        clear HK hfew hb hx
        go_wp2_with (at_builtin; refine wpList_append_lies _ (by rfl) (.tmp 19) (.tmp 20) 53 (by rfl) 0 9 i0' (.string ByteArray.empty) 1 16 Tryd.underlying53 hi hz0 hz1 hz2 rfl (by decide) (.slice (some ⟨g, 0, none⟩) ps.length cap) _ _ rfl HO.out.owns ⟨wr.heap.size, 0, none⟩ 1 1 [.string ByteArray.empty] rfl rfl (Tide.new_one rfl) (by simp [Value.oneCell']) (by decide) hm3.out hm4.out (Nat.zero_le _) _ rfl ?_)
        intro b2 cap2 w5 hown hg ho hlt2
        obtain ⟨r1, r2⟩ := HO.out.app hown hg (ho.imp id (fun e => e.trans (by simp))) hlt2
        have HN := Lib.hid (show PcRun b s w w5 b2 cap2 (k + 1) (ps ++ [ByteArray.empty]) from ⟨by
          rw [List.map_append, HD.out, HSn.out]; rfl, by
          rw [List.map_append, List.length_append]
          exact r1.mono (fun b _ hb => by
            have := HB.out.size
            rcases hb with hb | hb
            · exact hb
            · omega), HB.out.trans (r2.below HB.out.size (fun b hb h => by omega))⟩)
        have hL := Lib.hid (show (ps ++ [ByteArray.empty]).length = ps.length + 1 by rw [List.length_append]; rfl)
        clear hown hg ho hlt2 r1 r2 HO HB HSn HD
        go_wp2_with fail
        go_roundw
        case rel => exact ⟨k + 1, HLt.out, by go_num, b2, cap2, _, by rw [hL.out], HN⟩
        case measure => have := HLt.out; simp [intOf]; omega
      · rw [if_neg hbc] at HSn
        obtain ⟨p, hp⟩ : ∃ p, ps[ps.length - 1]? = some p := ⟨_, List.getElem?_eq_getElem (by omega)⟩
        obtain ⟨hcap, hcap2, hrow⟩ : ps.length ≤ cap ∧ cap ≤ maxLen ∧ Tide.RowIn wr g 9 (cap * 1) (ps.map Value.string) := by
          obtain ⟨g', cap', e, _, h1, h2, h3⟩ := HK.out.row.form hpos
          cases e
          exact ⟨h1, h2, h3⟩
        have hcell := hrow.cell (i := ps.length - 1) (v := .string p) (by rw [List.getElem?_map, hp]; rfl)
        have hsoft := hrow.soft (ps.length - 1)
        have hne : (b.toNat : Int) ≠ (c.toNat : Int) := fun e => hbc (UInt8.toNat_inj.1 (by exact_mod_cast e))
        have hN : (ps.length : Int) - 1 = ((ps.length - 1 : Nat) : Int) := by omega
        have n0 : (0 : Int) ≤ (ps.length : Int) - 1 := by omega
        have n1 : (ps.length : Int) - 1 < (ps.length : Int) := by omega
        have k0 : (k : Int) ≤ (k : Int) + 1 := by omega
        have k1 : (k : Int) + 1 ≤ (s.size : Int) := by omega
        have hps : p.size ≤ 1000000 := by
          have hm : p ∈ ps := List.mem_of_getElem? hp
          have h1 : p.data.toList ∈ Tide.pieces c (s.data.toList.take k) := by rw [← HK.out.data]; exact List.mem_map_of_mem hm
          have h2 := Tide.pieces_le c _ _ h1
          rw [List.length_take] at h2
          have h3 := Tide.ba_size p
          have h4 := HZ.out; have h5 := HS2.out
          omega
        have hes : (s.extract k (k + 1)).size ≤ 1000000 := by rw [ByteArray.size_extract]; omega
        have hadd : p.size + (s.extract k (k + 1)).size ≤ 9223372036854775807 := by omega
        have hadd2 : (p.size : Int) ≤ 8388608 := by omega
        have hadd3 : ((s.extract k (k + 1)).size : Int) ≤ 8388608 := by omega
        clear hes hps
        go_upto_region 7 with fail
        have HN := Lib.hid (show PcRun c s w (wr.setCell ⟨g, ps.length - 1, none⟩ (.string (p ++ s.extract k (k + 1)))).drew g cap (k + 1) (ps.set (ps.length - 1) (p ++ s.extract k (k + 1))) from ⟨by
          have hp2 : (Tide.pieces c (s.data.toList.take k))[(Tide.pieces c (s.data.toList.take k)).length - 1]? = some p.data.toList := by
            rw [← HK.out.data, List.getElem?_map, List.length_map, hp]; rfl
          have hlen : ps.length = (Tide.pieces c (s.data.toList.take k)).length := by rw [← HK.out.data, List.length_map]
          rw [List.map_set, HSn.out, Tide.growLast_set b hp2, HK.out.data, hlen, append_one hb], by
          rw [List.length_set, List.map_set]
          exact (HK.out.row.put (by rw [List.length_map]; omega) _).drew,
          (HK.out.below.setCell (by
            obtain ⟨g', cap', e, h1, _⟩ := HK.out.row.form hpos
            cases e
            exact h1) _).drew⟩)
        have hL := Lib.hid (show (ps.set (ps.length - 1) (p ++ s.extract k (k + 1))).length = ps.length from List.length_set)
        clear HK HSn hrow
        go_region
        generalize (wr.setCell ⟨g, ps.length - 1, none⟩ (.string (p ++ s.extract k (k + 1)))).drew = w5 at HN ⊢
        clear hcell hsoft hadd
        go_wp2_with fail
        go_roundw
        case rel => exact ⟨k + 1, HLt.out, by go_num, g, cap, _, by rw [hL.out], HN⟩
        case measure => have := HLt.out; simp [intOf]; omega
    · have hke : k = s.size := by omega
      have HF := Lib.hid (show PiecesPost c s w (.returned (.slice (some ⟨g, 0, none⟩) ps.length cap)) wr from ⟨_, ps, rfl, by
        have := HK.out.data
        rw [hke, HZ.out, List.take_length] at this; exact this, HK.out.row, HK.out.below⟩)
      have i1 : (s.size : Int) ≤ (k : Int) := by omega
      clear HK hke hk hlt
      go_wp2_with fail
      go_ret
      exact HF.out
end Go.Proofs.YthelnkoohbnjpaaDoor
