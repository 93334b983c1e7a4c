/- Spoiling a list of one's own, the room behind it too. -/
import Derived.Test.YtlfaogkdghnmcaaGreatWldR
import Derived.Test.YtlfaogkdghnmcaaGreatZLopC
import Derived.Deep.MidRow
set_option linter.unusedVariables false
set_option linter.unusedSimpArgs false
namespace Go.Proofs.YtlfaogkdghnmcaaGreat
open Go.RowKit
theorem _root_.Tide.At.puts {g : Nat} {T : TypeId} {size : Nat} : ∀ (vs : List Value) (o : Nat) {w : World} {cs : Array Value}, Tide.At w g T cs → cs.size = size → ∃ cs' : Array Value, Tide.At (w.setCells g o vs) g T cs' ∧ cs'.size = size
  | [], _, _, cs, h, hz => ⟨cs, h, hz⟩
  | v :: vs, o, _, _, h, hz => Tide.At.puts vs (o + 1) (h.put o v) (by simpa using hz)
theorem _root_.Tide.At.puts_other {g g' : Nat} {T : TypeId} {cs : Array Value} (hg : g ≠ g') : ∀ (vs : List Value) (o : Nat) {w : World}, Tide.At w g' T cs → Tide.At (w.setCells g o vs) g' T cs
  | [], _, _, h => h
  | v :: vs, o, _, h => Tide.At.puts_other hg vs (o + 1) (h.other (p := ⟨g, o, none⟩) (Ne.symm hg) v)
theorem _root_.Tide.At.there {g : Nat} {T : TypeId} {cs : Array Value} {w : World} {o n : Nat} (h : Tide.At w g T cs) (hn : o + n ≤ cs.size) : w.there g o n := fun j hj => by
  refine ⟨?_, h.soft _⟩
  have : cs[o + j]? = some (cs[o + j]'(by omega)) := Array.getElem?_eq_getElem (by omega)
  rw [h.here this]; rfl
/- spoil at []api.Pod -/
set_option maxRecDepth 100000 in
set_option maxHeartbeats 800000 in
theorem pod_spoil (S : Nat → Prop) (A : Option Addr) (n cap : Nat) (xs : List Value) (w : World) (h : Tide.OwnRow S w 59 3 (.slice A n cap) n xs) :
    Calls Tryz.prog 31 #[.slice A n cap, .agg #[.int .i64 77, .int .i64 3, .int .i64 0]] w fun e w' => e = .returned (.tuple #[]) ∧ Tide.Chg S w w' := by
  rcases h.2 with ⟨e, e0⟩ | ⟨g, cap', e, hS, hn, hm, cur, hat, hsz, _⟩
  · obtain ⟨rfl, rfl, rfl⟩ := slice_eq e
    have HC := Lib.hid ((Tide.Chg.refl S w).alloc (.cells #[.int .i64 77, .int .i64 3, .int .i64 0] 59))
    clear h e
    go_enter Tryz.func31, Tryz.ntmps31
    go_upto_region 1 with fail
    generalize w.alloc (.cells #[.int .i64 77, .int .i64 3, .int .i64 0] 59) = W at HC ⊢
    go_wp2_with fail
    go_loopw [11] (fun i wr => i = .int .i64 0 ∧ Hid (Tide.Chg S w wr)) (fun _ _ => 0)
    case atStart => exact ⟨rfl, HC⟩
    case round =>
      obtain ⟨rfl, HC⟩ := hrel
      go_wp2_with fail
      go_end0
      exact ⟨rfl, HC.out⟩
  · obtain ⟨rfl, _, rfl⟩ := slice_eq e
    have hm2 : (cap : Int) ≤ 9223372036854775807 := by have : maxLen = 9223372036854775807 := rfl; omega
    have hn2 : (n : Int) ≤ (cap : Int) := by omega
    have HK0 := Lib.hid (show Tide.Chg S w (w.alloc (.cells #[.int .i64 77, .int .i64 3, .int .i64 0] 59)) ∧ Tide.At (w.alloc (.cells #[.int .i64 77, .int .i64 3, .int .i64 0] 59)) w.heap.size 59 #[.int .i64 77, .int .i64 3, .int .i64 0] ∧ ∃ cs : Array Value, Tide.At (w.alloc (.cells #[.int .i64 77, .int .i64 3, .int .i64 0] 59)) g 59 cs ∧ cs.size = cap * 3 from ⟨(Tide.Chg.refl S w).alloc _, Tide.At.made w _ _, cur, hat.alloc _, hsz⟩)
    have HS := Lib.hid hS
    have HG := Lib.hid (show g ≠ w.heap.size by have := hat.inside; omega)
    clear h e hS hat hsz hn hm
    go_enter Tryz.func31, Tryz.ntmps31
    go_upto_region 1 with fail
    generalize w.alloc (.cells #[.int .i64 77, .int .i64 3, .int .i64 0] 59) = W at HK0 ⊢
    generalize w.heap.size = gx at HK0 HG ⊢
    go_wp2_with fail
    go_loopw [11] (fun i wr => ∃ k : Nat, k ≤ cap ∧ i = .int .i64 k ∧ Hid (Tide.Chg S w wr ∧ Tide.At wr gx 59 #[.int .i64 77, .int .i64 3, .int .i64 0] ∧ ∃ cs : Array Value, Tide.At wr g 59 cs ∧ cs.size = cap * 3)) (fun i _ => cap - (intOf i).toNat)
    case atStart => exact ⟨0, Nat.zero_le _, rfl, HK0⟩
    case round =>
      clear HK0
      obtain ⟨k, hk, rfl, HK⟩ := hrel
      by_cases hlt : k < cap
      · have k0 : (0 : Int) ≤ (k : Int) := by omega
        have k1 : (k : Int) < (cap : Int) := by omega
        obtain ⟨hc, hb, cs, ha, hz⟩ := HK.out
        have HNx := Lib.hid (show Tide.Chg S w (wr.setCells g (k * 3) (#[.int .i64 77, .int .i64 3, .int .i64 0] : Array Value).toList) ∧ Tide.At (wr.setCells g (k * 3) (#[.int .i64 77, .int .i64 3, .int .i64 0] : Array Value).toList) gx 59 #[.int .i64 77, .int .i64 3, .int .i64 0] ∧ ∃ cs : Array Value, Tide.At (wr.setCells g (k * 3) (#[.int .i64 77, .int .i64 3, .int .i64 0] : Array Value).toList) g 59 cs ∧ cs.size = cap * 3 from
          ⟨Tide.Chg.puts (.inl HS.out) _ _ hc, Tide.At.puts_other HG.out _ _ hb, Tide.At.puts _ _ ha hz⟩)
        have HTh := Lib.hid (show wr.there g (k * 3) (#[.int .i64 77, .int .i64 3, .int .i64 0] : Array Value).size from ha.there (by rw [hz]; show k * 3 + 3 ≤ _; exact Nat.le_trans (by omega) (Nat.mul_le_mul_right 3 (show k + 1 ≤ cap by omega))))
        have HBx := Lib.hid hb
        clear hc ha hz HK hb
        go_upto_region 6 with (first | refine wpList_load_row (by rfl) 59 (.tmp 3) (by rfl) gx (by rfl) 59 _ (0, 0) _ HBx.out Tryz.underlying59 rfl (by kernel_rfl) ?_ | refine wpList_store_mid (by rfl) 59 (.tmp 17) (.tmp 16) (by rfl) g (k * 3) #[.int .i64 77, .int .i64 3, .int .i64 0] (by rfl) (by rfl) HTh.out (by kernel_rfl) (by kernel_rfl) ?_)
        generalize wr.setCells g (k * 3) _ = wq at HNx ⊢
        go_wp2_with fail
        go_roundw
        case rel => exact ⟨k + 1, by omega, by go_num, HNx⟩
        case measure => simp [intOf]; omega
      · have HF := Lib.hid HK.out.1
        clear HK
        go_wp2_with fail
        go_end0
        exact ⟨rfl, HF.out⟩
/- spoil at []api.Request -/
set_option maxRecDepth 100000 in
set_option maxHeartbeats 800000 in
theorem req_spoil (S : Nat → Prop) (A : Option Addr) (n cap : Nat) (xs : List Value) (w : World) (h : Tide.OwnRow S w 55 5 (.slice A n cap) n xs) :
    Calls Tryz.prog 32 #[.slice A n cap, .agg #[.int .i64 0, .int .i64 0, .int .i64 0, .int .i64 4, .int .i64 0]] w fun e w' => e = .returned (.tuple #[]) ∧ Tide.Chg S w w' := by
  rcases h.2 with ⟨e, e0⟩ | ⟨g, cap', e, hS, hn, hm, cur, hat, hsz, _⟩
  · obtain ⟨rfl, rfl, rfl⟩ := slice_eq e
    have HC := Lib.hid ((Tide.Chg.refl S w).alloc (.cells #[.int .i64 0, .int .i64 0, .int .i64 0, .int .i64 4, .int .i64 0] 55))
    clear h e
    go_enter Tryz.func32, Tryz.ntmps32
    go_upto_region 1 with fail
    generalize w.alloc (.cells #[.int .i64 0, .int .i64 0, .int .i64 0, .int .i64 4, .int .i64 0] 55) = W at HC ⊢
    go_wp2_with fail
    go_loopw [11] (fun i wr => i = .int .i64 0 ∧ Hid (Tide.Chg S w wr)) (fun _ _ => 0)
    case atStart => exact ⟨rfl, HC⟩
    case round =>
      obtain ⟨rfl, HC⟩ := hrel
      go_wp2_with fail
      go_end0
      exact ⟨rfl, HC.out⟩
  · obtain ⟨rfl, _, rfl⟩ := slice_eq e
    have hm2 : (cap : Int) ≤ 9223372036854775807 := by have : maxLen = 9223372036854775807 := rfl; omega
    have hn2 : (n : Int) ≤ (cap : Int) := by omega
    have HK0 := Lib.hid (show Tide.Chg S w (w.alloc (.cells #[.int .i64 0, .int .i64 0, .int .i64 0, .int .i64 4, .int .i64 0] 55)) ∧ Tide.At (w.alloc (.cells #[.int .i64 0, .int .i64 0, .int .i64 0, .int .i64 4, .int .i64 0] 55)) w.heap.size 55 #[.int .i64 0, .int .i64 0, .int .i64 0, .int .i64 4, .int .i64 0] ∧ ∃ cs : Array Value, Tide.At (w.alloc (.cells #[.int .i64 0, .int .i64 0, .int .i64 0, .int .i64 4, .int .i64 0] 55)) g 55 cs ∧ cs.size = cap * 5 from ⟨(Tide.Chg.refl S w).alloc _, Tide.At.made w _ _, cur, hat.alloc _, hsz⟩)
    have HS := Lib.hid hS
    have HG := Lib.hid (show g ≠ w.heap.size by have := hat.inside; omega)
    clear h e hS hat hsz hn hm
    go_enter Tryz.func32, Tryz.ntmps32
    go_upto_region 1 with fail
    generalize w.alloc (.cells #[.int .i64 0, .int .i64 0, .int .i64 0, .int .i64 4, .int .i64 0] 55) = W at HK0 ⊢
    generalize w.heap.size = gx at HK0 HG ⊢
    go_wp2_with fail
    go_loopw [11] (fun i wr => ∃ k : Nat, k ≤ cap ∧ i = .int .i64 k ∧ Hid (Tide.Chg S w wr ∧ Tide.At wr gx 55 #[.int .i64 0, .int .i64 0, .int .i64 0, .int .i64 4, .int .i64 0] ∧ ∃ cs : Array Value, Tide.At wr g 55 cs ∧ cs.size = cap * 5)) (fun i _ => cap - (intOf i).toNat)
    case atStart => exact ⟨0, Nat.zero_le _, rfl, HK0⟩
    case round =>
      clear HK0
      obtain ⟨k, hk, rfl, HK⟩ := hrel
      by_cases hlt : k < cap
      · have k0 : (0 : Int) ≤ (k : Int) := by omega
        have k1 : (k : Int) < (cap : Int) := by omega
        obtain ⟨hc, hb, cs, ha, hz⟩ := HK.out
        have HNx := Lib.hid (show Tide.Chg S w (wr.setCells g (k * 5) (#[.int .i64 0, .int .i64 0, .int .i64 0, .int .i64 4, .int .i64 0] : Array Value).toList) ∧ Tide.At (wr.setCells g (k * 5) (#[.int .i64 0, .int .i64 0, .int .i64 0, .int .i64 4, .int .i64 0] : Array Value).toList) gx 55 #[.int .i64 0, .int .i64 0, .int .i64 0, .int .i64 4, .int .i64 0] ∧ ∃ cs : Array Value, Tide.At (wr.setCells g (k * 5) (#[.int .i64 0, .int .i64 0, .int .i64 0, .int .i64 4, .int .i64 0] : Array Value).toList) g 55 cs ∧ cs.size = cap * 5 from
          ⟨Tide.Chg.puts (.inl HS.out) _ _ hc, Tide.At.puts_other HG.out _ _ hb, Tide.At.puts _ _ ha hz⟩)
        have HTh := Lib.hid (show wr.there g (k * 5) (#[.int .i64 0, .int .i64 0, .int .i64 0, .int .i64 4, .int .i64 0] : Array Value).size from ha.there (by rw [hz]; show k * 5 + 5 ≤ _; exact Nat.le_trans (by omega) (Nat.mul_le_mul_right 5 (show k + 1 ≤ cap by omega))))
        have HBx := Lib.hid hb
        clear hc ha hz HK hb
        go_upto_region 6 with (first | refine wpList_load_row (by rfl) 55 (.tmp 3) (by rfl) gx (by rfl) 55 _ (0, 0) _ HBx.out Tryz.underlying55 rfl (by kernel_rfl) ?_ | refine wpList_store_mid (by rfl) 55 (.tmp 17) (.tmp 16) (by rfl) g (k * 5) #[.int .i64 0, .int .i64 0, .int .i64 0, .int .i64 4, .int .i64 0] (by rfl) (by rfl) HTh.out (by kernel_rfl) (by kernel_rfl) ?_)
        generalize wr.setCells g (k * 5) _ = wq at HNx ⊢
        go_wp2_with fail
        go_roundw
        case rel => exact ⟨k + 1, by omega, by go_num, HNx⟩
        case measure => simp [intOf]; omega
      · have HF := Lib.hid HK.out.1
        clear HK
        go_wp2_with fail
        go_end0
        exact ⟨rfl, HF.out⟩
/- spoil at []api.Message -/
set_option maxRecDepth 100000 in
set_option maxHeartbeats 800000 in
theorem msg_spoil (S : Nat → Prop) (A : Option Addr) (n cap : Nat) (xs : List Value) (w : World) (h : Tide.OwnRow S w 65 3 (.slice A n cap) n xs) :
    Calls Tryz.prog 35 #[.slice A n cap, .agg #[.int .i64 88, .int .i64 0, .bool false]] w fun e w' => e = .returned (.tuple #[]) ∧ Tide.Chg S w w' := by
  rcases h.2 with ⟨e, e0⟩ | ⟨g, cap', e, hS, hn, hm, cur, hat, hsz, _⟩
  · obtain ⟨rfl, rfl, rfl⟩ := slice_eq e
    have HC := Lib.hid ((Tide.Chg.refl S w).alloc (.cells #[.int .i64 88, .int .i64 0, .bool false] 65))
    clear h e
    go_enter Tryz.func35, Tryz.ntmps35
    go_upto_region 1 with fail
    generalize w.alloc (.cells #[.int .i64 88, .int .i64 0, .bool false] 65) = W at HC ⊢
    go_wp2_with fail
    go_loopw [11] (fun i wr => i = .int .i64 0 ∧ Hid (Tide.Chg S w wr)) (fun _ _ => 0)
    case atStart => exact ⟨rfl, HC⟩
    case round =>
      obtain ⟨rfl, HC⟩ := hrel
      go_wp2_with fail
      go_end0
      exact ⟨rfl, HC.out⟩
  · obtain ⟨rfl, _, rfl⟩ := slice_eq e
    have hm2 : (cap : Int) ≤ 9223372036854775807 := by have : maxLen = 9223372036854775807 := rfl; omega
    have hn2 : (n : Int) ≤ (cap : Int) := by omega
    have HK0 := Lib.hid (show Tide.Chg S w (w.alloc (.cells #[.int .i64 88, .int .i64 0, .bool false] 65)) ∧ Tide.At (w.alloc (.cells #[.int .i64 88, .int .i64 0, .bool false] 65)) w.heap.size 65 #[.int .i64 88, .int .i64 0, .bool false] ∧ ∃ cs : Array Value, Tide.At (w.alloc (.cells #[.int .i64 88, .int .i64 0, .bool false] 65)) g 65 cs ∧ cs.size = cap * 3 from ⟨(Tide.Chg.refl S w).alloc _, Tide.At.made w _ _, cur, hat.alloc _, hsz⟩)
    have HS := Lib.hid hS
    have HG := Lib.hid (show g ≠ w.heap.size by have := hat.inside; omega)
    clear h e hS hat hsz hn hm
    go_enter Tryz.func35, Tryz.ntmps35
    go_upto_region 1 with fail
    generalize w.alloc (.cells #[.int .i64 88, .int .i64 0, .bool false] 65) = W at HK0 ⊢
    generalize w.heap.size = gx at HK0 HG ⊢
    go_wp2_with fail
    go_loopw [11] (fun i wr => ∃ k : Nat, k ≤ cap ∧ i = .int .i64 k ∧ Hid (Tide.Chg S w wr ∧ Tide.At wr gx 65 #[.int .i64 88, .int .i64 0, .bool false] ∧ ∃ cs : Array Value, Tide.At wr g 65 cs ∧ cs.size = cap * 3)) (fun i _ => cap - (intOf i).toNat)
    case atStart => exact ⟨0, Nat.zero_le _, rfl, HK0⟩
    case round =>
      clear HK0
      obtain ⟨k, hk, rfl, HK⟩ := hrel
      by_cases hlt : k < cap
      · have k0 : (0 : Int) ≤ (k : Int) := by omega
        have k1 : (k : Int) < (cap : Int) := by omega
        obtain ⟨hc, hb, cs, ha, hz⟩ := HK.out
        have HNx := Lib.hid (show Tide.Chg S w (wr.setCells g (k * 3) (#[.int .i64 88, .int .i64 0, .bool false] : Array Value).toList) ∧ Tide.At (wr.setCells g (k * 3) (#[.int .i64 88, .int .i64 0, .bool false] : Array Value).toList) gx 65 #[.int .i64 88, .int .i64 0, .bool false] ∧ ∃ cs : Array Value, Tide.At (wr.setCells g (k * 3) (#[.int .i64 88, .int .i64 0, .bool false] : Array Value).toList) g 65 cs ∧ cs.size = cap * 3 from
          ⟨Tide.Chg.puts (.inl HS.out) _ _ hc, Tide.At.puts_other HG.out _ _ hb, Tide.At.puts _ _ ha hz⟩)
        have HTh := Lib.hid (show wr.there g (k * 3) (#[.int .i64 88, .int .i64 0, .bool false] : Array Value).size from ha.there (by rw [hz]; show k * 3 + 3 ≤ _; exact Nat.le_trans (by omega) (Nat.mul_le_mul_right 3 (show k + 1 ≤ cap by omega))))
        have HBx := Lib.hid hb
        clear hc ha hz HK hb
        go_upto_region 6 with (first | refine wpList_load_row (by rfl) 65 (.tmp 3) (by rfl) gx (by rfl) 65 _ (0, 0) _ HBx.out Tryz.underlying65 rfl (by kernel_rfl) ?_ | refine wpList_store_mid (by rfl) 65 (.tmp 17) (.tmp 16) (by rfl) g (k * 3) #[.int .i64 88, .int .i64 0, .bool false] (by rfl) (by rfl) HTh.out (by kernel_rfl) (by kernel_rfl) ?_)
        generalize wr.setCells g (k * 3) _ = wq at HNx ⊢
        go_wp2_with fail
        go_roundw
        case rel => exact ⟨k + 1, by omega, by go_num, HNx⟩
        case measure => simp [intOf]; omega
      · have HF := Lib.hid HK.out.1
        clear HK
        go_wp2_with fail
        go_end0
        exact ⟨rfl, HF.out⟩
/- spoil at []api.Trigger -/
set_option maxRecDepth 100000 in
set_option maxHeartbeats 800000 in
theorem trg_spoil (S : Nat → Prop) (A : Option Addr) (n cap : Nat) (xs : List Value) (w : World) (h : Tide.OwnRow S w 37 17 (.slice A n cap) n xs) :
    Calls Tryz.prog 30 #[.slice A n cap, .agg #[.int .i64 2, .int .i64 1, .int .i64 0, .int .u64 0, .int .u64 0, .int .u64 0, .int .u64 0, .int .u64 0, .bool false, .bool false, .int .u64 0, .int .u64 0, .int .u64 0, .int .u64 0, .int .u64 0, .bool false, .bool false]] w fun e w' => e = .returned (.tuple #[]) ∧ Tide.Chg S w w' := by
  rcases h.2 with ⟨e, e0⟩ | ⟨g, cap', e, hS, hn, hm, cur, hat, hsz, _⟩
  · obtain ⟨rfl, rfl, rfl⟩ := slice_eq e
    have HC := Lib.hid ((Tide.Chg.refl S w).alloc (.cells #[.int .i64 2, .int .i64 1, .int .i64 0, .int .u64 0, .int .u64 0, .int .u64 0, .int .u64 0, .int .u64 0, .bool false, .bool false, .int .u64 0, .int .u64 0, .int .u64 0, .int .u64 0, .int .u64 0, .bool false, .bool false] 37))
    clear h e
    go_enter Tryz.func30, Tryz.ntmps30
    go_upto_region 1 with fail
    generalize w.alloc (.cells #[.int .i64 2, .int .i64 1, .int .i64 0, .int .u64 0, .int .u64 0, .int .u64 0, .int .u64 0, .int .u64 0, .bool false, .bool false, .int .u64 0, .int .u64 0, .int .u64 0, .int .u64 0, .int .u64 0, .bool false, .bool false] 37) = W at HC ⊢
    go_wp2_with fail
    go_loopw [11] (fun i wr => i = .int .i64 0 ∧ Hid (Tide.Chg S w wr)) (fun _ _ => 0)
    case atStart => exact ⟨rfl, HC⟩
    case round =>
      obtain ⟨rfl, HC⟩ := hrel
      go_wp2_with fail
      go_end0
      exact ⟨rfl, HC.out⟩
  · obtain ⟨rfl, _, rfl⟩ := slice_eq e
    have hm2 : (cap : Int) ≤ 9223372036854775807 := by have : maxLen = 9223372036854775807 := rfl; omega
    have hn2 : (n : Int) ≤ (cap : Int) := by omega
    have HK0 := Lib.hid (show Tide.Chg S w (w.alloc (.cells #[.int .i64 2, .int .i64 1, .int .i64 0, .int .u64 0, .int .u64 0, .int .u64 0, .int .u64 0, .int .u64 0, .bool false, .bool false, .int .u64 0, .int .u64 0, .int .u64 0, .int .u64 0, .int .u64 0, .bool false, .bool false] 37)) ∧ Tide.At (w.alloc (.cells #[.int .i64 2, .int .i64 1, .int .i64 0, .int .u64 0, .int .u64 0, .int .u64 0, .int .u64 0, .int .u64 0, .bool false, .bool false, .int .u64 0, .int .u64 0, .int .u64 0, .int .u64 0, .int .u64 0, .bool false, .bool false] 37)) w.heap.size 37 #[.int .i64 2, .int .i64 1, .int .i64 0, .int .u64 0, .int .u64 0, .int .u64 0, .int .u64 0, .int .u64 0, .bool false, .bool false, .int .u64 0, .int .u64 0, .int .u64 0, .int .u64 0, .int .u64 0, .bool false, .bool false] ∧ ∃ cs : Array Value, Tide.At (w.alloc (.cells #[.int .i64 2, .int .i64 1, .int .i64 0, .int .u64 0, .int .u64 0, .int .u64 0, .int .u64 0, .int .u64 0, .bool false, .bool false, .int .u64 0, .int .u64 0, .int .u64 0, .int .u64 0, .int .u64 0, .bool false, .bool false] 37)) g 37 cs ∧ cs.size = cap * 17 from ⟨(Tide.Chg.refl S w).alloc _, Tide.At.made w _ _, cur, hat.alloc _, hsz⟩)
    have HS := Lib.hid hS
    have HG := Lib.hid (show g ≠ w.heap.size by have := hat.inside; omega)
    clear h e hS hat hsz hn hm
    go_enter Tryz.func30, Tryz.ntmps30
    go_upto_region 1 with fail
    generalize w.alloc (.cells #[.int .i64 2, .int .i64 1, .int .i64 0, .int .u64 0, .int .u64 0, .int .u64 0, .int .u64 0, .int .u64 0, .bool false, .bool false, .int .u64 0, .int .u64 0, .int .u64 0, .int .u64 0, .int .u64 0, .bool false, .bool false] 37) = W at HK0 ⊢
    generalize w.heap.size = gx at HK0 HG ⊢
    go_wp2_with fail
    go_loopw [11] (fun i wr => ∃ k : Nat, k ≤ cap ∧ i = .int .i64 k ∧ Hid (Tide.Chg S w wr ∧ Tide.At wr gx 37 #[.int .i64 2, .int .i64 1, .int .i64 0, .int .u64 0, .int .u64 0, .int .u64 0, .int .u64 0, .int .u64 0, .bool false, .bool false, .int .u64 0, .int .u64 0, .int .u64 0, .int .u64 0, .int .u64 0, .bool false, .bool false] ∧ ∃ cs : Array Value, Tide.At wr g 37 cs ∧ cs.size = cap * 17)) (fun i _ => cap - (intOf i).toNat)
    case atStart => exact ⟨0, Nat.zero_le _, rfl, HK0⟩
    case round =>
      clear HK0
      obtain ⟨k, hk, rfl, HK⟩ := hrel
      by_cases hlt : k < cap
      · have k0 : (0 : Int) ≤ (k : Int) := by omega
        have k1 : (k : Int) < (cap : Int) := by omega
        obtain ⟨hc, hb, cs, ha, hz⟩ := HK.out
        have HNx := Lib.hid (show Tide.Chg S w (wr.setCells g (k * 17) (#[.int .i64 2, .int .i64 1, .int .i64 0, .int .u64 0, .int .u64 0, .int .u64 0, .int .u64 0, .int .u64 0, .bool false, .bool false, .int .u64 0, .int .u64 0, .int .u64 0, .int .u64 0, .int .u64 0, .bool false, .bool false] : Array Value).toList) ∧ Tide.At (wr.setCells g (k * 17) (#[.int .i64 2, .int .i64 1, .int .i64 0, .int .u64 0, .int .u64 0, .int .u64 0, .int .u64 0, .int .u64 0, .bool false, .bool false, .int .u64 0, .int .u64 0, .int .u64 0, .int .u64 0, .int .u64 0, .bool false, .bool false] : Array Value).toList) gx 37 #[.int .i64 2, .int .i64 1, .int .i64 0, .int .u64 0, .int .u64 0, .int .u64 0, .int .u64 0, .int .u64 0, .bool false, .bool false, .int .u64 0, .int .u64 0, .int .u64 0, .int .u64 0, .int .u64 0, .bool false, .bool false] ∧ ∃ cs : Array Value, Tide.At (wr.setCells g (k * 17) (#[.int .i64 2, .int .i64 1, .int .i64 0, .int .u64 0, .int .u64 0, .int .u64 0, .int .u64 0, .int .u64 0, .bool false, .bool false, .int .u64 0, .int .u64 0, .int .u64 0, .int .u64 0, .int .u64 0, .bool false, .bool false] : Array Value).toList) g 37 cs ∧ cs.size = cap * 17 from
          ⟨Tide.Chg.puts (.inl HS.out) _ _ hc, Tide.At.puts_other HG.out _ _ hb, Tide.At.puts _ _ ha hz⟩)
        have HTh := Lib.hid (show wr.there g (k * 17) (#[.int .i64 2, .int .i64 1, .int .i64 0, .int .u64 0, .int .u64 0, .int .u64 0, .int .u64 0, .int .u64 0, .bool false, .bool false, .int .u64 0, .int .u64 0, .int .u64 0, .int .u64 0, .int .u64 0, .bool false, .bool false] : Array Value).size from ha.there (by rw [hz]; show k * 17 + 17 ≤ _; exact Nat.le_trans (by omega) (Nat.mul_le_mul_right 17 (show k + 1 ≤ cap by omega))))
        have HBx := Lib.hid hb
        clear hc ha hz HK hb
        go_upto_region 6 with (first | refine wpList_load_row (by rfl) 37 (.tmp 3) (by rfl) gx (by rfl) 37 _ (0, 0) _ HBx.out Tryz.underlying37 rfl (by kernel_rfl) ?_ | refine wpList_store_mid (by rfl) 37 (.tmp 17) (.tmp 16) (by rfl) g (k * 17) #[.int .i64 2, .int .i64 1, .int .i64 0, .int .u64 0, .int .u64 0, .int .u64 0, .int .u64 0, .int .u64 0, .bool false, .bool false, .int .u64 0, .int .u64 0, .int .u64 0, .int .u64 0, .int .u64 0, .bool false, .bool false] (by rfl) (by rfl) HTh.out (by kernel_rfl) (by kernel_rfl) ?_)
        generalize wr.setCells g (k * 17) _ = wq at HNx ⊢
        go_wp2_with fail
        go_roundw
        case rel => exact ⟨k + 1, by omega, by go_num, HNx⟩
        case measure => simp [intOf]; omega
      · have HF := Lib.hid HK.out.1
        clear HK
        go_wp2_with fail
        go_end0
        exact ⟨rfl, HF.out⟩
set_option maxRecDepth 100000 in
set_option maxHeartbeats 3200000 in
theorem int_spoil (S : Nat → Prop) (A : Option Addr) (n cap : Nat) (x : Int) (xs : List Value) (w : World) (h : Tide.OwnRow S w 3 1 (.slice A n cap) n xs) :
    Calls Tryz.prog 33 #[.slice A n cap, .int .i64 x] w fun e w' => e = .returned (.tuple #[]) ∧ Tide.Chg S w w' := by
  rcases h.2 with ⟨e, e0⟩ | ⟨g, cap', e, hS, hn, hm, cur, hat, hsz, _⟩
  · obtain ⟨rfl, rfl, rfl⟩ := slice_eq e
    clear h e
    go_enter Tryz.func33, Tryz.ntmps33
    go_wp2_with fail
    go_loopw [11] (fun i wr => i = .int .i64 0 ∧ Hid (Tide.Chg S w wr)) (fun _ _ => 0)
    case atStart => exact ⟨rfl, Lib.hid (Tide.Chg.refl S w)⟩
    case round =>
      obtain ⟨rfl, HC⟩ := hrel
      go_wp2_with fail
      go_end0
      exact ⟨rfl, HC.out⟩
  · obtain ⟨rfl, _, rfl⟩ := slice_eq e
    have hm2 : (cap : Int) ≤ 9223372036854775807 := by have : maxLen = 9223372036854775807 := rfl; omega
    have hn2 : (n : Int) ≤ (cap : Int) := by omega
    have HK0 := Lib.hid (show Tide.Chg S w w ∧ ∃ cs : Array Value, Tide.At w g 3 cs ∧ cs.size = cap from ⟨Tide.Chg.refl S w, cur, hat, by omega⟩)
    have HS := Lib.hid hS
    clear h e hS hat hsz hn hm
    go_enter Tryz.func33, Tryz.ntmps33
    go_wp2_with fail
    go_loopw [11] (fun i wr => ∃ k : Nat, k ≤ cap ∧ i = .int .i64 k ∧ Hid (Tide.Chg S w wr ∧ ∃ cs : Array Value, Tide.At wr g 3 cs ∧ cs.size = cap)) (fun i _ => cap - (intOf i).toNat)
    case atStart => exact ⟨0, Nat.zero_le _, rfl, HK0⟩
    case round =>
      clear HK0
      obtain ⟨k, hk, rfl, HK⟩ := hrel
      by_cases hlt : k < cap
      · have k0 : (0 : Int) ≤ (k : Int) := by omega
        have k1 : (k : Int) < (cap : Int) := by omega
        obtain ⟨hc, cs, ha, hz⟩ := HK.out
        have HNx := Lib.hid (show Tide.Chg S w (wr.setCell ⟨g, k, none⟩ (.int .i64 x)) ∧ ∃ cs : Array Value, Tide.At (wr.setCell ⟨g, k, none⟩ (.int .i64 x)) g 3 cs ∧ cs.size = cap from
          ⟨hc.put (p := ⟨g, k, none⟩) (.inl HS.out) _, _, ha.put k _, by simpa using hz⟩)
        obtain ⟨v0, hv0⟩ : ∃ v0, cs[k]? = some v0 := ⟨_, Array.getElem?_eq_getElem (by omega)⟩
        have c0 := ha.here hv0
        have p0 := ha.soft k
        clear hc ha hz HK hv0
        go_wp2_with fail
        go_roundw
        case rel => exact ⟨k + 1, by omega, by go_num, HNx⟩
        case measure => simp [intOf]; omega
      · have HF := Lib.hid HK.out.1
        clear HK
        go_wp2_with fail
        go_end0
        exact ⟨rfl, HF.out⟩
end Go.Proofs.YtlfaogkdghnmcaaGreat
