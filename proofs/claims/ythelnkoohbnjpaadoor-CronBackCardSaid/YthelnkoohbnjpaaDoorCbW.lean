/- The walk of CronBack. -/
import Derived.Test.YthelnkoohbnjpaaDoorBakC
import Derived.Test.YthelnkoohbnjpaaDoorCronO
import Derived.Test.YthelnkoohbnjpaaDoorBldP
set_option linter.unusedVariables false
set_option linter.unusedSimpArgs false
namespace Go.Proofs.YthelnkoohbnjpaaDoor
open Go.RowKit
set_option linter.unusedVariables false
theorem daily_runs : (List.range 60).filter (fun u => decide (0 ≤ u) && Tide.begins (2 ^ 30) 0 u) = [30] ∧ Tide.runEnd (2 ^ 30) 59 64 30 = 30 ∧ (List.range 24).filter (fun u => decide (0 ≤ u) && Tide.begins (2 ^ 6) 0 u) = [6] ∧ Tide.runEnd (2 ^ 6) 23 64 6 = 6 := by decide +kernel
theorem daily_all : (4294967294 = Tide.allN 1 31) ∧ (8190 = Tide.allN 1 12) ∧ (127 = Tide.allN 0 6) ∧ (2 ^ 30 ≠ Tide.allN 0 59) ∧ (2 ^ 6 ≠ Tide.allN 0 23) := by decide +kernel
theorem daily_ok : (dailyCr 6 30).ok = true := by decide +kernel
theorem daily_text : (dailyCr 6 30).text = ⟨#[51, 48, 32, 54, 32, 42, 32, 42, 32, 42]⟩ := by
  have t0 : (dailyCr 6 30).txt 0 = ⟨#[51, 48]⟩ := by
    show Tide.fieldTxt (2 ^ 30) 0 59 true = _
    unfold Tide.fieldTxt
    rw [if_neg (fun h => daily_all.2.2.2.1 h.1)]
    unfold Tide.txtsUp
    rw [daily_runs.1, List.map_cons, List.map_nil, daily_runs.2.1, Tide.joinB_one, Tide.runTxt_one]
    apply Tide.ba_ext
    show Lib.decDigits 30 = _
    rw [Lib.decDigits_two (by decide) (by decide)]; rfl
  have t1 : (dailyCr 6 30).txt 1 = ⟨#[54]⟩ := by
    show Tide.fieldTxt (2 ^ 6) 0 23 true = _
    unfold Tide.fieldTxt
    rw [if_neg (fun h => daily_all.2.2.2.2 h.1)]
    unfold Tide.txtsUp
    rw [daily_runs.2.2.1, List.map_cons, List.map_nil, daily_runs.2.2.2, Tide.joinB_one, Tide.runTxt_one]
    apply Tide.ba_ext
    show Lib.decDigits 6 = _
    rw [Lib.decDigits_one (by decide)]; rfl
  have t2 : (dailyCr 6 30).txt 2 = Tide.star := by
    show Tide.fieldTxt 4294967294 1 31 true = _
    unfold Tide.fieldTxt
    exact if_pos ⟨daily_all.1, rfl⟩
  have t3 : (dailyCr 6 30).txt 3 = Tide.star := by
    show Tide.fieldTxt 8190 1 12 true = _
    unfold Tide.fieldTxt
    exact if_pos ⟨daily_all.2.1, rfl⟩
  have t4 : (dailyCr 6 30).txt 4 = Tide.star := by
    show Tide.fieldTxt 127 0 6 true = _
    unfold Tide.fieldTxt
    exact if_pos ⟨daily_all.2.2.1, rfl⟩
  have e : (dailyCr 6 30).txts 5 = [(dailyCr 6 30).txt 0, (dailyCr 6 30).txt 1, (dailyCr 6 30).txt 2, (dailyCr 6 30).txt 3, (dailyCr 6 30).txt 4] := rfl
  unfold Cr.text
  rw [e, t0, t1, t2, t3, t4]
  apply Tide.ba_ext
  show Lib.join _ _ = _
  rfl
theorem sayDaily (w : World) : Calls Tryd.prog 24 #[.int .i64 6, .int .i64 30] w fun e w' => e = .returned (.agg (dailyCr 6 30).cells) ∧ Below w.heap.size w w' := cronDaily 6 30 w (by decide) (by decide)
theorem sayDaily2 (w : World) : Calls Tryd.prog 14 #[.agg (dailyCr 6 30).cells] w fun e w' => e = .returned (.tuple #[.string ⟨#[51, 48, 32, 54, 32, 42, 32, 42, 32, 42]⟩, .int .i64 0]) ∧ Below w.heap.size w w' :=
  (cronPrint (dailyCr 6 30) (dailyCr_fits (by decide) (by decide)) w).mono fun _ _ ⟨h, hb⟩ => ⟨by rw [h, if_pos (Cr.err_yes daily_ok), Cr.err_yes daily_ok, daily_text], hb⟩
structure CbS (w0 W : World) (g : Nat) (m : Int) (cs : Array Value) : Prop where
  at_ : Tide.At W g 24 cs
  low : w0.heap.size ≤ g
  max : W.cell? ⟨0, 0, none⟩ = some (.int .i64 m)
  glob : 0 < w0.heap.size
  below : Below w0.heap.size w0 W
theorem cell_keep {W W' : World} {k o : Nat} (hb : Below W.heap.size W W') (hk : k < W.heap.size) : W'.cell? ⟨k, o, none⟩ = W.cell? ⟨k, o, none⟩ := by
  unfold World.cell?
  rw [hb.block k hk]
theorem CbS.next {w0 W W' : World} {g : Nat} {m : Int} {cs : Array Value} (h : CbS w0 W g m cs) (hb : Below W.heap.size W W') : CbS w0 W' g m cs :=
  ⟨h.at_.below hb h.at_.inside, h.low, (cell_keep hb (Nat.lt_of_lt_of_le h.glob h.below.size)).trans h.max, h.glob, h.below.trans (hb.mono h.below.size)⟩
theorem CbS.put {w0 W : World} {g : Nat} {m : Int} {cs : Array Value} (h : CbS w0 W g m cs) (cs' : Array Value) : CbS w0 (W.setRow g cs') g m cs' :=
  ⟨setRow_heap W g cs cs' 24 (0, 0) h.at_, h.low, by
    have hne : 0 ≠ g := by have := h.low; have := h.glob; omega
    have := setRow_other W g 0 cs' hne
    unfold World.cell? at this ⊢
    rw [this]; exact h.max, h.glob,
   ⟨h.below.os, h.below.tape, h.below.output, by rw [setRow_size]; exact h.below.size, fun k hk => (setRow_other W g k cs' (by have := h.low; omega)).trans (h.below.block k hk)⟩⟩
theorem sayParse (s : ByteArray) {w0 W : World} {g : Nat} {m : Int} {cs : Array Value} (h : CbS w0 W g m cs) (a : Array Value) (e : Int) (ha : cronV s = a) (he : Tide.cronCode s = e) : Calls Tryd.prog 9 #[.string s] W fun r w' => r = .returned (.tuple #[.agg a, .int .i64 e]) ∧ Below W.heap.size W w' :=
  (cronParse s m W h.max).mono fun _ _ ⟨h, hb⟩ => ⟨by rw [h, ha, he], hb⟩
theorem sayPrintC (c : Cr) (hf : c.fits) (e : Int) (t : ByteArray) (he : c.err = e) (ht : (if c.err = 0 then c.text else ⟨#[]⟩) = t) (w : World) : Calls Tryd.prog 14 #[.agg c.cells] w fun r w' => r = .returned (.tuple #[.string t, .int .i64 e]) ∧ Below w.heap.size w w' :=
  (cronPrint c hf w).mono fun _ _ ⟨h, hb⟩ => ⟨by rw [h, ht, he], hb⟩
set_option maxRecDepth 100000 in
set_option maxHeartbeats 6400000 in
theorem cronBack_walk (c : Cr) (hf : c.fits) (s : ByteArray) (m : Int) (w : World) (hm : w.cell? ⟨0, 0, none⟩ = some (.int .i64 m)) : Calls Tryd.prog 7 #[.agg c.cells, .string s] w fun e w' => e = .returned (.bool true) ∧ Below w.heap.size w w' := by
  have hgl : 0 < w.heap.size := by
    rcases Nat.lt_or_ge 0 w.heap.size with h | h
    · exact h
    · unfold World.cell? at hm; rw [Array.getElem?_eq_none h] at hm; cases hm
  have HS := Lib.hid (show CbS w (w.alloc (.cells c.cells 24)) w.heap.size m c.cells from
    have hb := (Below.refl w.heap.size w).alloc (Nat.le_refl _) (.cells c.cells 24)
    ⟨Tide.At.made w 24 c.cells, Nat.le_refl _, (cell_keep hb hgl).trans hm, hgl, hb⟩)
  have HF := Lib.hid hf
  have HC := Lib.hid (cron_read s)
  clear hm hgl hf
  go_enter Tryd.func7, Tryd.ntmps7
  go_upto_region 1 with fail
  generalize w.alloc (.cells c.cells 24) = W at HS ⊢
  generalize w.heap.size = g at HS ⊢
  go_wp2_with fail
  refine (sayDaily _).mono ?_
  rintro e w1 ⟨rfl, hb1⟩
  have HS1 := Lib.hid (HS.out.next hb1)
  clear hb1 HS
  go_wp2_with fail
  refine (sayDaily2 _).mono ?_
  rintro e w2 ⟨rfl, hb2⟩
  have HS2 := Lib.hid (HS1.out.next hb2)
  clear hb2 HS1
  have x0 : w2.cell? ⟨g, 0, none⟩ = some (.int .u64 (c.mi : Int)) := HS2.out.at_.here rfl
  have x1 : w2.cell? ⟨g, 1, none⟩ = some (.int .u64 (c.h : Int)) := HS2.out.at_.here rfl
  have x2 : w2.cell? ⟨g, 2, none⟩ = some (.int .u64 (c.d : Int)) := HS2.out.at_.here rfl
  have x3 : w2.cell? ⟨g, 3, none⟩ = some (.int .u64 (c.mo : Int)) := HS2.out.at_.here rfl
  have x4 : w2.cell? ⟨g, 4, none⟩ = some (.int .u64 (c.wk : Int)) := HS2.out.at_.here rfl
  have x5 : w2.cell? ⟨g, 5, none⟩ = some (.bool c.ad) := HS2.out.at_.here rfl
  have x6 : w2.cell? ⟨g, 6, none⟩ = some (.bool c.aw) := HS2.out.at_.here rfl
  go_wp2_with fail
  by_cases hok : c.ok = true
  · as_aux_lemma =>
    obtain ⟨hk1, hk2⟩ := cron_back HF.out hok
    have HO := Lib.hid hok; have HK1 := Lib.hid hk1; have HK2 := Lib.hid hk2
    clear hk1 hk2 hok
    refine (sayPrintC c HF.out 0 c.text (Cr.err_yes HO.out) (if_pos (Cr.err_yes HO.out)) _).mono ?_
    rintro e w3 ⟨rfl, hb3⟩
    have HS3 := Lib.hid (HS2.out.next hb3)
    clear hb3 HS2 x0 x1 x2 x3 x4 x5 x6
    go_wp2_with fail
    refine (sayParse c.text HS3.out #[.int .u64 (c.mi : Int), .int .u64 (c.h : Int), .int .u64 (c.d : Int), .int .u64 (c.mo : Int), .int .u64 (c.wk : Int), .bool c.ad, .bool c.aw] 0 HK2.out HK1.out).mono ?_
    rintro e w4 ⟨rfl, hb4⟩
    have HS4 := Lib.hid (HS3.out.next hb4)
    clear hb4 HS3
    go_upto_region 7 with fail
    have HS5 := Lib.hid (HS4.out.next ((Below.refl _ _).alloc (Nat.le_refl _) (.cells #[.int .u64 (c.mi : Int), .int .u64 (c.h : Int), .int .u64 (c.d : Int), .int .u64 (c.mo : Int), .int .u64 (c.wk : Int), .bool c.ad, .bool c.aw] 24)))
    have HX5 := Lib.hid (Tide.At.made w4 24 #[.int .u64 (c.mi : Int), .int .u64 (c.h : Int), .int .u64 (c.d : Int), .int .u64 (c.mo : Int), .int .u64 (c.wk : Int), .bool c.ad, .bool c.aw])
    generalize w4.alloc (.cells #[.int .u64 (c.mi : Int), .int .u64 (c.h : Int), .int .u64 (c.d : Int), .int .u64 (c.mo : Int), .int .u64 (c.wk : Int), .bool c.ad, .bool c.aw] 24) = w5 at HS5 HX5 ⊢
    generalize w4.heap.size = g5 at HX5 ⊢
    clear HS4 HK1 HK2
    have x0 : w5.cell? ⟨g, 0, none⟩ = some (.int .u64 (c.mi : Int)) := HS5.out.at_.here rfl
    have x1 : w5.cell? ⟨g, 1, none⟩ = some (.int .u64 (c.h : Int)) := HS5.out.at_.here rfl
    have x2 : w5.cell? ⟨g, 2, none⟩ = some (.int .u64 (c.d : Int)) := HS5.out.at_.here rfl
    have x3 : w5.cell? ⟨g, 3, none⟩ = some (.int .u64 (c.mo : Int)) := HS5.out.at_.here rfl
    have x4 : w5.cell? ⟨g, 4, none⟩ = some (.int .u64 (c.wk : Int)) := HS5.out.at_.here rfl
    have x5 : w5.cell? ⟨g, 5, none⟩ = some (.bool c.ad) := HS5.out.at_.here rfl
    have x6 : w5.cell? ⟨g, 6, none⟩ = some (.bool c.aw) := HS5.out.at_.here rfl
    have u0 : w5.cell? ⟨g5, 0, none⟩ = some (.int .u64 (c.mi : Int)) := HX5.out.here rfl
    have u1 : w5.cell? ⟨g5, 1, none⟩ = some (.int .u64 (c.h : Int)) := HX5.out.here rfl
    have u2 : w5.cell? ⟨g5, 2, none⟩ = some (.int .u64 (c.d : Int)) := HX5.out.here rfl
    have u3 : w5.cell? ⟨g5, 3, none⟩ = some (.int .u64 (c.mo : Int)) := HX5.out.here rfl
    have u4 : w5.cell? ⟨g5, 4, none⟩ = some (.int .u64 (c.wk : Int)) := HX5.out.here rfl
    have u5 : w5.cell? ⟨g5, 5, none⟩ = some (.bool c.ad) := HX5.out.here rfl
    have u6 : w5.cell? ⟨g5, 6, none⟩ = some (.bool c.aw) := HX5.out.here rfl
    go_upto_region 9 with fail
    clear x0 x1 x2 x3 x4 x5 x6 u0 u1 u2 u3 u4 u5 u6
    as_aux_lemma =>
    rcases HC.out with ⟨hk, hc0, c2, hv, hf2, hok2⟩ | ⟨hne, hz⟩
    · as_aux_lemma =>
      obtain ⟨hk1, hk2⟩ := cron_back hf2 hok2
      have HF2 := Lib.hid hf2; have HK := Lib.hid hc0; have HV := Lib.hid hv; have HO := Lib.hid hok2; have HK1 := Lib.hid hk1; have HK2 := Lib.hid hk2
      clear hk hc0 hv hf2 hok2 hk1 hk2 HC
      go_wp2_with fail
      refine (sayParse s HS5.out #[.int .u64 (c2.mi : Int), .int .u64 (c2.h : Int), .int .u64 (c2.d : Int), .int .u64 (c2.mo : Int), .int .u64 (c2.wk : Int), .bool c2.ad, .bool c2.aw] 0 HV.out HK.out).mono ?_
      rintro e w8 ⟨rfl, hb8⟩
      have HS8 := Lib.hid (HS5.out.next hb8)
      clear hb8 HS5
      go_upto_region 10 with (refine wpList_store_row rfl 24 (.tmp 2) (.tmp 48) rfl g #[.int .u64 (c2.mi : Int), .int .u64 (c2.h : Int), .int .u64 (c2.d : Int), .int .u64 (c2.mo : Int), .int .u64 (c2.wk : Int), .bool c2.ad, .bool c2.aw] rfl rfl 24 #[.int .u64 (c.mi : Int), .int .u64 (c.h : Int), .int .u64 (c.d : Int), .int .u64 (c.mo : Int), .int .u64 (c.wk : Int), .bool c.ad, .bool c.aw] HS8.out.at_ (by kernel_rfl) rfl (by kernel_rfl) ?_)
      have HS9 := Lib.hid (HS8.out.put #[.int .u64 (c2.mi : Int), .int .u64 (c2.h : Int), .int .u64 (c2.d : Int), .int .u64 (c2.mo : Int), .int .u64 (c2.wk : Int), .bool c2.ad, .bool c2.aw])
      clear HS8
      generalize w8.setRow g #[.int .u64 (c2.mi : Int), .int .u64 (c2.h : Int), .int .u64 (c2.d : Int), .int .u64 (c2.mo : Int), .int .u64 (c2.wk : Int), .bool c2.ad, .bool c2.aw] = w9 at HS9 ⊢
      have y0 : w9.cell? ⟨g, 0, none⟩ = some (.int .u64 (c2.mi : Int)) := HS9.out.at_.here rfl
      have y1 : w9.cell? ⟨g, 1, none⟩ = some (.int .u64 (c2.h : Int)) := HS9.out.at_.here rfl
      have y2 : w9.cell? ⟨g, 2, none⟩ = some (.int .u64 (c2.d : Int)) := HS9.out.at_.here rfl
      have y3 : w9.cell? ⟨g, 3, none⟩ = some (.int .u64 (c2.mo : Int)) := HS9.out.at_.here rfl
      have y4 : w9.cell? ⟨g, 4, none⟩ = some (.int .u64 (c2.wk : Int)) := HS9.out.at_.here rfl
      have y5 : w9.cell? ⟨g, 5, none⟩ = some (.bool c2.ad) := HS9.out.at_.here rfl
      have y6 : w9.cell? ⟨g, 6, none⟩ = some (.bool c2.aw) := HS9.out.at_.here rfl
      go_wp2_with fail
      refine (sayPrintC c2 HF2.out 0 c2.text (Cr.err_yes HO.out) (if_pos (Cr.err_yes HO.out)) _).mono ?_
      rintro e w10 ⟨rfl, hb10⟩
      have HS10 := Lib.hid (HS9.out.next hb10)
      clear hb10 HS9 y0 y1 y2 y3 y4 y5 y6
      go_wp2_with fail
      refine (sayParse c2.text HS10.out #[.int .u64 (c2.mi : Int), .int .u64 (c2.h : Int), .int .u64 (c2.d : Int), .int .u64 (c2.mo : Int), .int .u64 (c2.wk : Int), .bool c2.ad, .bool c2.aw] 0 HK2.out HK1.out).mono ?_
      rintro e w11 ⟨rfl, hb11⟩
      have HS11 := Lib.hid (HS10.out.next hb11)
      clear hb11 HS10
      go_upto_region 14 with fail
      have HS12 := Lib.hid (HS11.out.next ((Below.refl _ _).alloc (Nat.le_refl _) (.cells #[.int .u64 (c2.mi : Int), .int .u64 (c2.h : Int), .int .u64 (c2.d : Int), .int .u64 (c2.mo : Int), .int .u64 (c2.wk : Int), .bool c2.ad, .bool c2.aw] 24)))
      have HX12 := Lib.hid (Tide.At.made w11 24 #[.int .u64 (c2.mi : Int), .int .u64 (c2.h : Int), .int .u64 (c2.d : Int), .int .u64 (c2.mo : Int), .int .u64 (c2.wk : Int), .bool c2.ad, .bool c2.aw])
      generalize w11.alloc (.cells #[.int .u64 (c2.mi : Int), .int .u64 (c2.h : Int), .int .u64 (c2.d : Int), .int .u64 (c2.mo : Int), .int .u64 (c2.wk : Int), .bool c2.ad, .bool c2.aw] 24) = w12 at HS12 HX12 ⊢
      generalize w11.heap.size = g12 at HX12 ⊢
      clear HS11
      have y0 : w12.cell? ⟨g, 0, none⟩ = some (.int .u64 (c2.mi : Int)) := HS12.out.at_.here rfl
      have y1 : w12.cell? ⟨g, 1, none⟩ = some (.int .u64 (c2.h : Int)) := HS12.out.at_.here rfl
      have y2 : w12.cell? ⟨g, 2, none⟩ = some (.int .u64 (c2.d : Int)) := HS12.out.at_.here rfl
      have y3 : w12.cell? ⟨g, 3, none⟩ = some (.int .u64 (c2.mo : Int)) := HS12.out.at_.here rfl
      have y4 : w12.cell? ⟨g, 4, none⟩ = some (.int .u64 (c2.wk : Int)) := HS12.out.at_.here rfl
      have y5 : w12.cell? ⟨g, 5, none⟩ = some (.bool c2.ad) := HS12.out.at_.here rfl
      have y6 : w12.cell? ⟨g, 6, none⟩ = some (.bool c2.aw) := HS12.out.at_.here rfl
      have v0 : w12.cell? ⟨g12, 0, none⟩ = some (.int .u64 (c2.mi : Int)) := HX12.out.here rfl
      have v1 : w12.cell? ⟨g12, 1, none⟩ = some (.int .u64 (c2.h : Int)) := HX12.out.here rfl
      have v2 : w12.cell? ⟨g12, 2, none⟩ = some (.int .u64 (c2.d : Int)) := HX12.out.here rfl
      have v3 : w12.cell? ⟨g12, 3, none⟩ = some (.int .u64 (c2.mo : Int)) := HX12.out.here rfl
      have v4 : w12.cell? ⟨g12, 4, none⟩ = some (.int .u64 (c2.wk : Int)) := HX12.out.here rfl
      have v5 : w12.cell? ⟨g12, 5, none⟩ = some (.bool c2.ad) := HX12.out.here rfl
      have v6 : w12.cell? ⟨g12, 6, none⟩ = some (.bool c2.aw) := HX12.out.here rfl
      go_wp2_with fail
      go_ret
      exact ⟨rfl, HS12.out.below⟩
    · as_aux_lemma =>
      obtain ⟨E, hE⟩ : ∃ E, Tide.cronCode s = E := ⟨_, rfl⟩
      rw [hE] at hne
      have e1 : (E == 0) = false := by simpa using hne
      have e2 : (E != 0) = true := by simpa using hne
      have HV := Lib.hid hz; have HK := Lib.hid hE
      clear hz hE hne HC
      go_wp2_with fail
      refine (sayParse s HS5.out #[.int .u64 0, .int .u64 0, .int .u64 0, .int .u64 0, .int .u64 0, .bool false, .bool false] E HV.out HK.out).mono ?_
      rintro e w8 ⟨rfl, hb8⟩
      have HS8 := Lib.hid (HS5.out.next hb8)
      clear hb8 HS5
      go_upto_region 10 with (refine wpList_store_row rfl 24 (.tmp 2) (.tmp 48) rfl g #[.int .u64 0, .int .u64 0, .int .u64 0, .int .u64 0, .int .u64 0, .bool false, .bool false] rfl rfl 24 #[.int .u64 (c.mi : Int), .int .u64 (c.h : Int), .int .u64 (c.d : Int), .int .u64 (c.mo : Int), .int .u64 (c.wk : Int), .bool c.ad, .bool c.aw] HS8.out.at_ (by kernel_rfl) rfl (by kernel_rfl) ?_)
      have HS9 := Lib.hid (HS8.out.put #[.int .u64 0, .int .u64 0, .int .u64 0, .int .u64 0, .int .u64 0, .bool false, .bool false])
      clear HS8
      generalize w8.setRow g #[.int .u64 0, .int .u64 0, .int .u64 0, .int .u64 0, .int .u64 0, .bool false, .bool false] = w9 at HS9 ⊢
      have z0 : w9.cell? ⟨g, 0, none⟩ = some (.int .u64 0) := HS9.out.at_.here rfl
      have z1 : w9.cell? ⟨g, 1, none⟩ = some (.int .u64 0) := HS9.out.at_.here rfl
      have z2 : w9.cell? ⟨g, 2, none⟩ = some (.int .u64 0) := HS9.out.at_.here rfl
      have z3 : w9.cell? ⟨g, 3, none⟩ = some (.int .u64 0) := HS9.out.at_.here rfl
      have z4 : w9.cell? ⟨g, 4, none⟩ = some (.int .u64 0) := HS9.out.at_.here rfl
      have z5 : w9.cell? ⟨g, 5, none⟩ = some (.bool false) := HS9.out.at_.here rfl
      have z6 : w9.cell? ⟨g, 6, none⟩ = some (.bool false) := HS9.out.at_.here rfl
      go_wp2_with fail
      go_ret
      exact ⟨rfl, HS9.out.below⟩
  · as_aux_lemma =>
    have he : c.err = 1 := Cr.err_no (by simpa using hok)
    have HE := Lib.hid he
    clear hok he
    refine (sayPrintC c HF.out 1 ⟨#[]⟩ HE.out (by rw [HE.out]; rfl) _).mono ?_
    rintro e w3 ⟨rfl, hb3⟩
    have HS3 := Lib.hid (HS2.out.next hb3)
    clear hb3 HS2 x0 x1 x2 x3 x4 x5 x6
    go_upto_region 9 with fail
    as_aux_lemma =>
    rcases HC.out with ⟨hk, hc0, c2, hv, hf2, hok2⟩ | ⟨hne, hz⟩
    · as_aux_lemma =>
      obtain ⟨hk1, hk2⟩ := cron_back hf2 hok2
      have HF2 := Lib.hid hf2; have HK := Lib.hid hc0; have HV := Lib.hid hv; have HO := Lib.hid hok2; have HK1 := Lib.hid hk1; have HK2 := Lib.hid hk2
      clear hk hc0 hv hf2 hok2 hk1 hk2 HC
      go_wp2_with fail
      refine (sayParse s HS3.out #[.int .u64 (c2.mi : Int), .int .u64 (c2.h : Int), .int .u64 (c2.d : Int), .int .u64 (c2.mo : Int), .int .u64 (c2.wk : Int), .bool c2.ad, .bool c2.aw] 0 HV.out HK.out).mono ?_
      rintro e w8 ⟨rfl, hb8⟩
      have HS8 := Lib.hid (HS3.out.next hb8)
      clear hb8 HS3
      go_upto_region 10 with (refine wpList_store_row rfl 24 (.tmp 2) (.tmp 48) rfl g #[.int .u64 (c2.mi : Int), .int .u64 (c2.h : Int), .int .u64 (c2.d : Int), .int .u64 (c2.mo : Int), .int .u64 (c2.wk : Int), .bool c2.ad, .bool c2.aw] rfl rfl 24 #[.int .u64 (c.mi : Int), .int .u64 (c.h : Int), .int .u64 (c.d : Int), .int .u64 (c.mo : Int), .int .u64 (c.wk : Int), .bool c.ad, .bool c.aw] HS8.out.at_ (by kernel_rfl) rfl (by kernel_rfl) ?_)
      have HS9 := Lib.hid (HS8.out.put #[.int .u64 (c2.mi : Int), .int .u64 (c2.h : Int), .int .u64 (c2.d : Int), .int .u64 (c2.mo : Int), .int .u64 (c2.wk : Int), .bool c2.ad, .bool c2.aw])
      clear HS8
      generalize w8.setRow g #[.int .u64 (c2.mi : Int), .int .u64 (c2.h : Int), .int .u64 (c2.d : Int), .int .u64 (c2.mo : Int), .int .u64 (c2.wk : Int), .bool c2.ad, .bool c2.aw] = w9 at HS9 ⊢
      have y0 : w9.cell? ⟨g, 0, none⟩ = some (.int .u64 (c2.mi : Int)) := HS9.out.at_.here rfl
      have y1 : w9.cell? ⟨g, 1, none⟩ = some (.int .u64 (c2.h : Int)) := HS9.out.at_.here rfl
      have y2 : w9.cell? ⟨g, 2, none⟩ = some (.int .u64 (c2.d : Int)) := HS9.out.at_.here rfl
      have y3 : w9.cell? ⟨g, 3, none⟩ = some (.int .u64 (c2.mo : Int)) := HS9.out.at_.here rfl
      have y4 : w9.cell? ⟨g, 4, none⟩ = some (.int .u64 (c2.wk : Int)) := HS9.out.at_.here rfl
      have y5 : w9.cell? ⟨g, 5, none⟩ = some (.bool c2.ad) := HS9.out.at_.here rfl
      have y6 : w9.cell? ⟨g, 6, none⟩ = some (.bool c2.aw) := HS9.out.at_.here rfl
      go_wp2_with fail
      refine (sayPrintC c2 HF2.out 0 c2.text (Cr.err_yes HO.out) (if_pos (Cr.err_yes HO.out)) _).mono ?_
      rintro e w10 ⟨rfl, hb10⟩
      have HS10 := Lib.hid (HS9.out.next hb10)
      clear hb10 HS9 y0 y1 y2 y3 y4 y5 y6
      go_wp2_with fail
      refine (sayParse c2.text HS10.out #[.int .u64 (c2.mi : Int), .int .u64 (c2.h : Int), .int .u64 (c2.d : Int), .int .u64 (c2.mo : Int), .int .u64 (c2.wk : Int), .bool c2.ad, .bool c2.aw] 0 HK2.out HK1.out).mono ?_
      rintro e w11 ⟨rfl, hb11⟩
      have HS11 := Lib.hid (HS10.out.next hb11)
      clear hb11 HS10
      go_upto_region 14 with fail
      have HS12 := Lib.hid (HS11.out.next ((Below.refl _ _).alloc (Nat.le_refl _) (.cells #[.int .u64 (c2.mi : Int), .int .u64 (c2.h : Int), .int .u64 (c2.d : Int), .int .u64 (c2.mo : Int), .int .u64 (c2.wk : Int), .bool c2.ad, .bool c2.aw] 24)))
      have HX12 := Lib.hid (Tide.At.made w11 24 #[.int .u64 (c2.mi : Int), .int .u64 (c2.h : Int), .int .u64 (c2.d : Int), .int .u64 (c2.mo : Int), .int .u64 (c2.wk : Int), .bool c2.ad, .bool c2.aw])
      generalize w11.alloc (.cells #[.int .u64 (c2.mi : Int), .int .u64 (c2.h : Int), .int .u64 (c2.d : Int), .int .u64 (c2.mo : Int), .int .u64 (c2.wk : Int), .bool c2.ad, .bool c2.aw] 24) = w12 at HS12 HX12 ⊢
      generalize w11.heap.size = g12 at HX12 ⊢
      clear HS11
      have y0 : w12.cell? ⟨g, 0, none⟩ = some (.int .u64 (c2.mi : Int)) := HS12.out.at_.here rfl
      have y1 : w12.cell? ⟨g, 1, none⟩ = some (.int .u64 (c2.h : Int)) := HS12.out.at_.here rfl
      have y2 : w12.cell? ⟨g, 2, none⟩ = some (.int .u64 (c2.d : Int)) := HS12.out.at_.here rfl
      have y3 : w12.cell? ⟨g, 3, none⟩ = some (.int .u64 (c2.mo : Int)) := HS12.out.at_.here rfl
      have y4 : w12.cell? ⟨g, 4, none⟩ = some (.int .u64 (c2.wk : Int)) := HS12.out.at_.here rfl
      have y5 : w12.cell? ⟨g, 5, none⟩ = some (.bool c2.ad) := HS12.out.at_.here rfl
      have y6 : w12.cell? ⟨g, 6, none⟩ = some (.bool c2.aw) := HS12.out.at_.here rfl
      have v0 : w12.cell? ⟨g12, 0, none⟩ = some (.int .u64 (c2.mi : Int)) := HX12.out.here rfl
      have v1 : w12.cell? ⟨g12, 1, none⟩ = some (.int .u64 (c2.h : Int)) := HX12.out.here rfl
      have v2 : w12.cell? ⟨g12, 2, none⟩ = some (.int .u64 (c2.d : Int)) := HX12.out.here rfl
      have v3 : w12.cell? ⟨g12, 3, none⟩ = some (.int .u64 (c2.mo : Int)) := HX12.out.here rfl
      have v4 : w12.cell? ⟨g12, 4, none⟩ = some (.int .u64 (c2.wk : Int)) := HX12.out.here rfl
      have v5 : w12.cell? ⟨g12, 5, none⟩ = some (.bool c2.ad) := HX12.out.here rfl
      have v6 : w12.cell? ⟨g12, 6, none⟩ = some (.bool c2.aw) := HX12.out.here rfl
      go_wp2_with fail
      go_ret
      exact ⟨rfl, HS12.out.below⟩
    · as_aux_lemma =>
      obtain ⟨E, hE⟩ : ∃ E, Tide.cronCode s = E := ⟨_, rfl⟩
      rw [hE] at hne
      have e1 : (E == 0) = false := by simpa using hne
      have e2 : (E != 0) = true := by simpa using hne
      have HV := Lib.hid hz; have HK := Lib.hid hE
      clear hz hE hne HC
      go_wp2_with fail
      refine (sayParse s HS3.out #[.int .u64 0, .int .u64 0, .int .u64 0, .int .u64 0, .int .u64 0, .bool false, .bool false] E HV.out HK.out).mono ?_
      rintro e w8 ⟨rfl, hb8⟩
      have HS8 := Lib.hid (HS3.out.next hb8)
      clear hb8 HS3
      go_upto_region 10 with (refine wpList_store_row rfl 24 (.tmp 2) (.tmp 48) rfl g #[.int .u64 0, .int .u64 0, .int .u64 0, .int .u64 0, .int .u64 0, .bool false, .bool false] rfl rfl 24 #[.int .u64 (c.mi : Int), .int .u64 (c.h : Int), .int .u64 (c.d : Int), .int .u64 (c.mo : Int), .int .u64 (c.wk : Int), .bool c.ad, .bool c.aw] HS8.out.at_ (by kernel_rfl) rfl (by kernel_rfl) ?_)
      have HS9 := Lib.hid (HS8.out.put #[.int .u64 0, .int .u64 0, .int .u64 0, .int .u64 0, .int .u64 0, .bool false, .bool false])
      clear HS8
      generalize w8.setRow g #[.int .u64 0, .int .u64 0, .int .u64 0, .int .u64 0, .int .u64 0, .bool false, .bool false] = w9 at HS9 ⊢
      have z0 : w9.cell? ⟨g, 0, none⟩ = some (.int .u64 0) := HS9.out.at_.here rfl
      have z1 : w9.cell? ⟨g, 1, none⟩ = some (.int .u64 0) := HS9.out.at_.here rfl
      have z2 : w9.cell? ⟨g, 2, none⟩ = some (.int .u64 0) := HS9.out.at_.here rfl
      have z3 : w9.cell? ⟨g, 3, none⟩ = some (.int .u64 0) := HS9.out.at_.here rfl
      have z4 : w9.cell? ⟨g, 4, none⟩ = some (.int .u64 0) := HS9.out.at_.here rfl
      have z5 : w9.cell? ⟨g, 5, none⟩ = some (.bool false) := HS9.out.at_.here rfl
      have z6 : w9.cell? ⟨g, 6, none⟩ = some (.bool false) := HS9.out.at_.here rfl
      go_wp2_with fail
      go_ret
      exact ⟨rfl, HS9.out.below⟩
end Go.Proofs.YthelnkoohbnjpaaDoor
