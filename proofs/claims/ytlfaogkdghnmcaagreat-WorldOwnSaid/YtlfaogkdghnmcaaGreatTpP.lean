/- What the laws of the package tidetop begin with: played. -/
import Derived.Test.YtlfaogkdghnmcaaGreatTpA
set_option linter.unusedVariables false
set_option linter.unusedSimpArgs false
namespace Go.Proofs.YtlfaogkdghnmcaaGreat
open Go.RowKit
/-- one happening of the list that came in -/
theorem hap_row {w wr : World} {A : Option Addr} {l : List (List Int)} {k : Nat} (hA : RowsAt w 3 A l) (hr : ∀ row ∈ l, row.length = 3 ∧ ∀ x ∈ row, -9223372036854775808 ≤ x ∧ x ≤ 9223372036854775807) (hb : Below w.heap.size w wr) (hk : k < l.length) :
    ∃ b off x y z, A = some ⟨b, off, none⟩ ∧ wr.cell? ⟨b, off + k * 3, none⟩ = some (.int .i64 x) ∧ wr.cell? ⟨b, off + k * 3 + 1, none⟩ = some (.int .i64 y) ∧ wr.cell? ⟨b, off + k * 3 + 2, none⟩ = some (.int .i64 z) ∧ l[k]? = some [x, y, z] ∧ (-9223372036854775808 ≤ z ∧ z ≤ 9223372036854775807) ∧ b < wr.heap.size := by
  obtain ⟨b, off, e, hlt, hc⟩ := hA (by omega)
  have hrow : l[k]? = some l[k] := List.getElem?_eq_getElem hk
  have hm := hr _ (List.getElem_mem hk)
  obtain ⟨x, y, z, hxyz⟩ : ∃ x y z, l[k] = [x, y, z] := by
    match l[k], hm.1 with
    | [x, y, z], _ => exact ⟨x, y, z, rfl⟩
  rw [hxyz] at hrow hm
  exact ⟨b, off, x, y, z, e, (hb.cell (p := ⟨b, off + k * 3, none⟩) hlt).trans (hc k _ 0 x hrow rfl), (hb.cell (p := ⟨b, off + k * 3 + 1, none⟩) hlt).trans (hc k _ 1 y hrow rfl), (hb.cell (p := ⟨b, off + k * 3 + 2, none⟩) hlt).trans (hc k _ 2 z hrow rfl), hrow, hm.2 z (by simp), Nat.lt_of_lt_of_le hlt hb.size⟩
theorem req_cells {S : Nat → Prop} {w : World} {v : Value} {l : List Tide.Req} (h : Tide.OwnRow S w 55 5 v l.length (l.flatMap Tide.Req.enc)) {k : Nat} {r : Tide.Req} (hk : l[k]? = some r) :
    ∃ b cap, v = .slice (some ⟨b, 0, none⟩) l.length cap ∧ b < w.heap.size ∧ w.cell? ⟨b, k * 5, none⟩ = some (.int .i64 r.id) ∧ w.cell? ⟨b, k * 5 + 1, none⟩ = some (.int .i64 r.source) ∧ w.cell? ⟨b, k * 5 + 2, none⟩ = some (.int .i64 r.till) ∧
      w.cell? ⟨b, k * 5 + 3, none⟩ = some (.int .i64 r.fate) ∧ w.cell? ⟨b, k * 5 + 4, none⟩ = some (.int .i64 r.pod) := by
  obtain ⟨b, cap, e, hS, h1, h2, h3⟩ := h.form (by have := Tide.get_lt hk; omega)
  exact ⟨b, cap, e, h3.inside, h3.cell (Tide.flat_get (j := 0) Tide.Req.enc_length hk rfl), h3.cell (Tide.flat_get (j := 1) Tide.Req.enc_length hk rfl), h3.cell (Tide.flat_get (j := 2) Tide.Req.enc_length hk rfl), h3.cell (Tide.flat_get (j := 3) Tide.Req.enc_length hk rfl), h3.cell (Tide.flat_get (j := 4) Tide.Req.enc_length hk rfl)⟩
/-- what New answers, of any plan that came in -/
inductive AnyNew (w : World) (p : Pln) (parts most sec : Int) : Ending → World → Prop
  | bad (w' : World) (E : Int) (he : newE p parts sec = E) (h0 : E ≠ 0) (hb : Below w.heap.size w w') : AnyNew w p parts most sec (.returned (.tuple #[.pointer none, .int .i64 E])) w'
  | good (w' : World) (q : Wp) (he : newE p parts sec = 0) (hn : WoN (fun b => b < w.heap.size) w' q (newWo p parts most sec)) (hok : (newWo p parts most sec).ok 0) (hb : Below w.heap.size w w') : AnyNew w p parts most sec (.returned (.tuple #[.pointer (some ⟨q.g, 0, none⟩), .int .i64 0])) w'
theorem anyNew (p : Pln) (A : Option Addr) (cap : Nat) (parts most sec : Int) (w : World) (ht : Tide.ListIn w 17 Trg.enc (.slice A p.trigs.length cap) p.trigs) (hf : ∀ t ∈ p.trigs, t.fits) (hn : p.name.size ≤ 9223372036854775807) (hl : p.trigs.length ≤ 9223372036854775807) :
    Calls Tryz.prog 16 #[plnV p (.slice A p.trigs.length cap), .int .i64 parts, .int .i64 most, .int .i64 sec] w (AnyNew w p parts most sec) := by
  by_cases hE : planE p = 0
  · by_cases hb : (parts < 1 ∨ 20 < parts) ∨ (sec < -10000000000 ∨ 10000000000 < sec)
    · have he : newE p parts sec = 1 := by
        unfold newE
        rw [if_neg (by rw [hE]; simp)]
        split
        · rfl
        · split
          · rfl
          · omega
      refine (woNewNo p A cap parts most sec w ht hf hn hE hb).mono ?_
      rintro e w' ⟨rfl, h⟩
      exact .bad w' _ rfl (by rw [he]; decide) h
    · have he : newE p parts sec = 0 := by
        unfold newE
        rw [if_neg (by rw [hE]; simp), if_neg (by omega), if_neg (by omega)]
      obtain ⟨n, rfl⟩ := Int.eq_ofNat_of_zero_le (show 0 ≤ parts by omega)
      refine (woNewYes p A cap n most sec w ht hf hn hE (by omega) (by omega) (by omega) (by omega)).mono ?_
      rintro e w' ⟨q, rfl, h1, h2⟩
      exact .good w' q he h1 (ok_new hE hf (by omega) (by omega) (by omega)) h2
  · refine (woNewBad p A cap parts most sec w ht hf hn hl hE).mono ?_
    rintro e w' ⟨rfl, h⟩
    exact .bad w' _ rfl (by rw [wo_new_err1 hE]; exact hE) h
inductive PlayedPost (w : World) (p : Pln) (parts most sec : Int) (l : List (List Int)) : Ending → World → Prop
  | bad (w' : World) (h : newE p parts sec ≠ 0 ∨ 60 < l.length) (hb : Below w.heap.size w w') : PlayedPost w p parts most sec l (.returned (.pointer none)) w'
  | good (w' : World) (q : Wp) (he : newE p parts sec = 0) (hl : l.length ≤ 60) (hn : WoN (fun b => b < w.heap.size) w' q (playW (newWo p parts most sec) l)) (hok : (newWo p parts most sec).ok 0) (hb : Below w.heap.size w w') : PlayedPost w p parts most sec l (.returned (.pointer (some ⟨q.g, 0, none⟩))) w'
set_option maxRecDepth 100000 in
set_option maxHeartbeats 6400000 in
theorem topPlayed (p : Pln) (A : Option Addr) (cap : Nat) (parts most sec : Int) (A1 : Option Addr) (cap1 : Nat) (l : List (List Int)) (w : World) (ht : Tide.ListIn w 17 Trg.enc (.slice A p.trigs.length cap) p.trigs) (hf : ∀ t ∈ p.trigs, t.fits) (hn : p.name.size ≤ 9223372036854775807) (hl : p.trigs.length ≤ 9223372036854775807)
    (hr : ∀ row ∈ l, row.length = 3 ∧ ∀ x ∈ row, -9223372036854775808 ≤ x ∧ x ≤ 9223372036854775807) (hA : RowsAt w 3 A1 l) (hl1 : l.length ≤ 9223372036854775807) :
    Calls Tryz.prog 22 #[plnV p (.slice A p.trigs.length cap), .int .i64 parts, .int .i64 most, .int .i64 sec, .slice A1 l.length cap1] w (PlayedPost w p parts most sec l) := by
  have HB := Lib.hid ((Below.refl w.heap.size w).alloc (Nat.le_refl _) (.cells (plnC p (.slice A p.trigs.length cap)) 29))
  have HX := Lib.hid (Tide.At.made w 29 (plnC p (.slice A p.trigs.length cap)))
  have HC := Lib.hid (fun (W : World) (hb : Below w.heap.size w W) => anyNew p A cap parts most sec W (ht.below hb (Nat.le_refl _)) hf hn hl)
  have HA := Lib.hid hA; have HRw := Lib.hid hr
  clear ht hf hn hl hA hr
  unfold plnV
  unfold plnC at HB HX
  go_enter Tryz.func22, Tryz.ntmps22
  go_upto_region 1 with fail
  have HCx := Lib.hid (HC.out _ HB.out)
  generalize w.alloc (.cells #[.string p.name, .int .i64 p.mn, .int .i64 p.mx, .int .i64 p.poll, .int .i64 p.cool, .int .i64 p.tol, .int .i64 p.back, .int .i64 p.after, .int .i64 p.shift, .int .i64 p.up.win, .int .i64 p.up.pods, .int .i64 p.up.pct, .int .i64 p.up.per, .int .i64 p.down.win, .int .i64 p.down.pods, .int .i64 p.down.pct, .int .i64 p.down.per, .slice A p.trigs.length cap] 29) = W at HB HX HCx ⊢
  clear HC
  go_wp2_with (refine wpList_load_row rfl 29 (.tmp 5) rfl w.heap.size rfl 29 _ (0, 0) _ HX.out Tryz.underlying29 rfl (by kernel_rfl) ?_)
  refine HCx.out.mono ?_
  intro e w1 hnew
  clear HCx HX
  cases hnew with
  | bad _ E he h0 hb =>
    have hb1 : (E != 0) = true := by simpa using h0
    have HF := Lib.hid (show PlayedPost w p parts most sec l (.returned (.pointer none)) w1 from .bad w1 (.inl (by rw [he]; exact h0)) (HB.out.trans (hb.mono HB.out.size)))
    clear he h0 hb
    go_wp2_with fail
    go_ret
    exact HF.out
  | good _ q he hn hok hb =>
    have hB1 := HB.out.trans (hb.mono HB.out.size)
    by_cases h60 : 60 < l.length
    · have HF := Lib.hid (show PlayedPost w p parts most sec l (.returned (.pointer none)) w1 from .bad w1 (.inr h60) hB1)
      have h60' : (60 : Int) < (l.length : Int) := by omega
      clear he hn hok hb hB1 h60
      go_wp2_with fail
      go_ret
      exact HF.out
    · have HEn := Lib.hid he; have HOk := Lib.hid hok; have HL60 := Lib.hid (show l.length ≤ 60 by omega)
      have h60' : (l.length : Int) ≤ 60 := by omega
      have HS := Lib.hid (show WoN (fun b => b < w.heap.size) w1 q (playW (newWo p parts most sec) (l.take 0)) ∧ Below w.heap.size w w1 from ⟨hn.mono fun b hb => Nat.lt_of_lt_of_le hb HB.out.size, hB1⟩)
      have HZ := Lib.hid HB.out.size
      clear he hn hok hb hB1 h60 HB
      go_wp2_with fail
      go_loopw [32] (fun i wr => ∃ k : Nat, k ≤ l.length ∧ i = .int .i64 k ∧ Hid (WoN (fun b => b < w.heap.size) wr q (playW (newWo p parts most sec) (l.take k)) ∧ Below w.heap.size w wr)) (fun i _ => l.length - (intOf i).toNat)
      case atStart => exact ⟨0, Nat.zero_le _, rfl, HS⟩
      case round =>
        clear HS
        obtain ⟨k, hk, rfl, HK⟩ := hrel
        by_cases hlt : k < l.length
        · obtain ⟨b, off, x, y, z, rfl, c0, c1, c2, hrow, ⟨z0, z1⟩, hbl⟩ := hap_row HA.out HRw.out HK.out.2 hlt
          have hk0 : (0 : Int) ≤ (k : Int) := by omega
          have hk1 : (k : Int) < (l.length : Int) := by omega
          have HRow := Lib.hid (play_snoc (m := newWo p parts most sec) hrow)
          obtain ⟨hb1, hb2⟩ := HK.out.1.boxed (.cells #[.int .i64 x, .int .i64 y, .int .i64 z] 44)
          have HN := Lib.hid hb1; have HBx := Lib.hid hb2
          have HOkk := Lib.hid (ok_play HOk.out (l.take k))
          have HLk := Lib.hid (show 0 + 1000 * (l.take k).length ≤ 88000 by have := HL60.out; rw [List.length_take]; omega)
          clear hb1 hb2 hrow
          go_wp2_with fail
          refine (woDo x y z HN.out HOkk.out HLk.out z0 z1).mono ?_
          rintro e w4 ⟨rfl, hc⟩
          have HNx := Lib.hid (show WoN (fun b => b < w.heap.size) w4 q (playW (newWo p parts most sec) (l.take (k + 1))) ∧ Below w.heap.size w w4 from by
            have h1 := WoC.unbox HBx.out hc
            refine ⟨by rw [HRow.out]; exact h1.1, HK.out.2.trans (h1.2.below HK.out.2.size (fun j hj h => h hj))⟩)
          clear hc c0 c1 c2 HK HN HBx
          go_wp2_with fail
          go_roundw
          case rel => exact ⟨k + 1, by omega, by go_num, HNx⟩
          case measure => simp [intOf]; omega
        · have hke : k = l.length := by omega
          subst hke
          have HF := Lib.hid (show PlayedPost w p parts most sec l (.returned (.pointer (some ⟨q.g, 0, none⟩))) wr from .good wr q HEn.out HL60.out (by have := HK.out.1; rw [List.take_length] at this; exact this) HOk.out HK.out.2)
          clear HK
          go_wp2_with fail
          go_ret
          exact HF.out
end Go.Proofs.YtlfaogkdghnmcaaGreat
