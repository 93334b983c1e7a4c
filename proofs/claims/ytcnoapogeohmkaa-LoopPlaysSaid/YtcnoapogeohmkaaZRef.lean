/- The contract of the reference's Span, alone. Structs and slices that are built: the kit's laws, with little for the kernel to reckon (for texts without the loop). Two spans compared, as a law: one way, not fifteen. The contract of the reference's In. The reference's In, one contract (for seats without the calendar). -/
import Derived.Test.YtcnoapogeohmkaaSekD
import Derived.Test.YtcnoapogeohmkaaZSpan
import Derived.Test.YtcnoapogeohmkaaZBase
import Derived.Great.BuildSlice
import Derived.Test.YtcnoapogeohmkaaZCron
import Derived.RegionTactic
import Derived.Test.YtcnoapogeohmkaaZCiv
import Derived.Test.YtcnoapogeohmkaaRows
import Derived.WalkKit
import Derived.WalkSpells
import Derived.WalkLawsBesides
import Derived.Lib.Hide

set_option linter.unusedVariables false
set_option linter.unusedSimpArgs false
namespace Go.Proofs.Ytcnoapogeohmkaa
open Go.RowKit
set_option linter.unusedVariables false
set_option maxRecDepth 100000 in
set_option maxHeartbeats 1600000 in
theorem refSpanS (ai ah ad am aw bi bh bd bm bw : Nat) (aa ab ba bb : Bool) (ha : Cr.fits ⟨ai, ah, ad, am, aw, aa, ab⟩) (hb : Cr.fits ⟨bi, bh, bd, bm, bw, ba, bb⟩) (w : World) : Calls Try.prog 33 #[.agg #[.int .u64 (ai : Int), .int .u64 (ah : Int), .int .u64 (ad : Int), .int .u64 (am : Int), .int .u64 (aw : Int), .bool aa, .bool ab, .int .u64 (bi : Int), .int .u64 (bh : Int), .int .u64 (bd : Int), .int .u64 (bm : Int), .int .u64 (bw : Int), .bool ba, .bool bb]] w fun e w' => e = .returned (.int .i64 (spanE ⟨ai, ah, ad, am, aw, aa, ab⟩ ⟨bi, bh, bd, bm, bw, ba, bb⟩)) ∧ Below w.heap.size w w' := by
  have HCa := Lib.hid ha; have HCb := Lib.hid hb
  have HB := Lib.hid ((Below.refl w.heap.size w).alloc (Nat.le_refl _) (.cells #[.int .u64 (ai : Int), .int .u64 (ah : Int), .int .u64 (ad : Int), .int .u64 (am : Int), .int .u64 (aw : Int), .bool aa, .bool ab, .int .u64 (bi : Int), .int .u64 (bh : Int), .int .u64 (bd : Int), .int .u64 (bm : Int), .int .u64 (bw : Int), .bool ba, .bool bb] 63))
  have HX := Lib.hid (Tide.At.made w 63 #[.int .u64 (ai : Int), .int .u64 (ah : Int), .int .u64 (ad : Int), .int .u64 (am : Int), .int .u64 (aw : Int), .bool aa, .bool ab, .int .u64 (bi : Int), .int .u64 (bh : Int), .int .u64 (bd : Int), .int .u64 (bm : Int), .int .u64 (bw : Int), .bool ba, .bool bb])
  clear ha hb
  have he : (Cr.err ⟨ai, ah, ad, am, aw, aa, ab⟩ = 0 ∧ spanE ⟨ai, ah, ad, am, aw, aa, ab⟩ ⟨bi, bh, bd, bm, bw, ba, bb⟩ = Cr.err ⟨bi, bh, bd, bm, bw, ba, bb⟩) ∨ (Cr.err ⟨ai, ah, ad, am, aw, aa, ab⟩ = 1 ∧ spanE ⟨ai, ah, ad, am, aw, aa, ab⟩ ⟨bi, bh, bd, bm, bw, ba, bb⟩ = 1) := by
    unfold spanE
    cases hok : Cr.ok ⟨ai, ah, ad, am, aw, aa, ab⟩
    · right; exact ⟨Cr.err_no hok, rfl⟩
    · left; exact ⟨Cr.err_yes hok, rfl⟩
  obtain ⟨R, hR⟩ : ∃ R, spanE ⟨ai, ah, ad, am, aw, aa, ab⟩ ⟨bi, bh, bd, bm, bw, ba, bb⟩ = R := ⟨_, rfl⟩
  rw [hR] at he ⊢
  have HE := Lib.hid he
  clear he hR
  have z0 := HX.out.here (i := 0) rfl; have z1 := HX.out.here (i := 1) rfl; have z2 := HX.out.here (i := 2) rfl; have z3 := HX.out.here (i := 3) rfl; have z4 := HX.out.here (i := 4) rfl; have z5 := HX.out.here (i := 5) rfl; have z6 := HX.out.here (i := 6) rfl; have z7 := HX.out.here (i := 7) rfl; have z8 := HX.out.here (i := 8) rfl; have z9 := HX.out.here (i := 9) rfl; have z10 := HX.out.here (i := 10) rfl; have z11 := HX.out.here (i := 11) rfl; have z12 := HX.out.here (i := 12) rfl; have z13 := HX.out.here (i := 13) rfl
  go_enter Try.func33, Try.ntmps33
  go_wp2_with fail
  refine (refCron ⟨ai, ah, ad, am, aw, aa, ab⟩ HCa.out _).mono ?_
  rintro e w1 ⟨rfl, hb1⟩
  have HB1 := Lib.hid (HB.out.trans (hb1.mono HB.out.size))
  have HX1 := Lib.hid (HX.out.below hb1 HX.out.inside)
  clear hb1 z0 z1 z2 z3 z4 z5 z6 z7 z8 z9 z10 z11 z12 z13
  rcases HE.out with ⟨h1, h2⟩ | ⟨h1, h2⟩
  · rw [h1]
    subst h2
    clear h1
    have y0 := HX1.out.here (i := 7) rfl; have y1 := HX1.out.here (i := 8) rfl; have y2 := HX1.out.here (i := 9) rfl; have y3 := HX1.out.here (i := 10) rfl; have y4 := HX1.out.here (i := 11) rfl; have y5 := HX1.out.here (i := 12) rfl; have y6 := HX1.out.here (i := 13) rfl
    go_wp2_with fail
    refine (refCron ⟨bi, bh, bd, bm, bw, ba, bb⟩ HCb.out _).mono ?_
    rintro e w2 ⟨rfl, hb2⟩
    have HF := Lib.hid (HB1.out.trans (hb2.mono HB1.out.size))
    clear hb2 y0 y1 y2 y3 y4 y5 y6
    go_wp2_with fail
    go_ret
    exact ⟨rfl, HF.out⟩
  · rw [h1]
    subst h2
    clear h1
    go_wp2_with fail
    go_ret
    exact ⟨rfl, HB1.out⟩
end Go.Proofs.Ytcnoapogeohmkaa


namespace Go.Proofs.Ytcnoapogeohmkaa
open Go.RowKit
set_option linter.unusedVariables false
theorem build_law {P : Program} {ops : Array Oper} {rest : List Oper} {o : Oper} {a : Act} {w : World} {Q : Exit → Act → World → Prop} (hg : o.guard = none) (t : TypeId) (parts : Array (Nat × Operand)) (ho : o.op = .build t parts) (l : List (Nat × Value)) (hp : parts.toList.map (fun y => (y.1, a.eval y.2)) = l)
    (cells : Array Value) (h : P.built t l = some cells) (k : wpList P ops Q rest (a.put o.dst (.agg cells)) w) : wpList P ops Q (o :: rest) a w :=
  wpList_plain hg fun _ hK => by
    subst hp
    rw [← Array.toList_map] at h
    unfold Oper.wp execOp
    simp only [ho, Sem.run_bind, Sem.run_pure, run_build w t _ cells h, Result.andThen_ok]
    exact hK _ _ k
theorem bslice_law {P : Program} {ops : Array Oper} {rest : List Oper} {o : Oper} {a : Act} {w : World} {Q : Exit → Act → World → Prop} (hg : o.guard = none) (t e : TypeId) (len : Nat) (parts : Array (Nat × Operand)) (ho : o.op = .buildSlice t len parts) (l : List (Nat × Value)) (hp : parts.toList.map (fun y => (y.1, a.eval y.2)) = l)
    (cells : Array Value) (ie : TypeInfo) (z : Value) (hu : P.underlying t = some (.slice e)) (hie : P.info? e = some ie) (hz : ie.zero = some z) (hsmall : ¬ len * ie.size > 2 ^ 24) (hpos : ¬ len * ie.size = 0)
    (hf : Instr.fill (fun i => some (i * ie.size, ie.size)) ((Array.range (len * ie.size)).map (z.cells[· % z.cells.size]!)) l = some cells)
    (k : wpList P ops Q rest (a.put o.dst (.slice (some ⟨w.heap.size, 0, none⟩) len len)) (w.alloc (.cells cells e))) : wpList P ops Q (o :: rest) a w := by
  subst hp
  rw [← Array.toList_map] at hf
  exact wpList_buildSlice hg t e len parts ho cells ie z hu hie hz hsmall hpos hf k
theorem info_two {i : Option TypeInfo} {z : Option Value} {s : Nat} (h : i.map (fun i => (i.zero, i.size)) = some (z, s)) : ∃ j, i = some j ∧ j.zero = z ∧ j.size = s := by
  cases i with
  | none => cases h
  | some j => simp only [Option.map_some, Option.some.injEq, Prod.mk.injEq] at h; exact ⟨j, rfl, h.1, h.2⟩
end Go.Proofs.Ytcnoapogeohmkaa


namespace Go.Proofs.Ytcnoapogeohmkaa
open Go.RowKit
set_option linter.unusedVariables false
theorem neq_law {P : Program} {ops : Array Oper} {rest : List Oper} {o : Oper} {a : Act} {w : World} {Q : Exit → Act → World → Prop} (hw : Region.wanted o (yielded ops a.tmps) = true) (t rt : TypeId) (x y : Operand) (ho : o.op = .binOp .neq t x y rt) (vx vy : Value) (hx : a.eval x = vx) (hy : a.eval y = vy) (b : Bool)
    (hv : ∀ W : World, (do eqGuard .neq t x y vx vy; Go.binOp .neq t vx vy : Sem Value).run P W = Result.ok (.bool b) W) (k : wpList P ops Q rest (a.put o.dst (.bool b)) w) : wpList P ops Q (o :: rest) a w :=
  wpList_step fun K hK => by
    rw [if_pos hw]
    subst hx hy
    have h2 := hv w
    unfold Oper.wp execOp
    simp only [ho]
    simp only [Sem.run_bind, Sem.run_pure] at h2 ⊢
    rw [h2]
    simp only [Result.andThen_ok]
    exact hK _ _ k
def zerosV : Array Value := #[.int .u64 0, .int .u64 0, .int .u64 0, .int .u64 0, .int .u64 0, .bool false, .bool false, .int .u64 0, .int .u64 0, .int .u64 0, .int .u64 0, .int .u64 0, .bool false, .bool false]
def zeroB (c : Cr) : Bool := c.mi == 0 && c.h == 0 && c.d == 0 && c.mo == 0 && c.wk == 0 && !c.ad && !c.aw
set_option maxRecDepth 100000 in
theorem span_neq (ai ah ad am aw bi bh bd bm bw : Nat) (aa ab ba bb : Bool) (x y : Operand) (W : World) : (do eqGuard .neq 63 x y (.agg #[.int .u64 (ai : Int), .int .u64 (ah : Int), .int .u64 (ad : Int), .int .u64 (am : Int), .int .u64 (aw : Int), .bool aa, .bool ab, .int .u64 (bi : Int), .int .u64 (bh : Int), .int .u64 (bd : Int), .int .u64 (bm : Int), .int .u64 (bw : Int), .bool ba, .bool bb]) (.agg #[.int .u64 0, .int .u64 0, .int .u64 0, .int .u64 0, .int .u64 0, .bool false, .bool false, .int .u64 0, .int .u64 0, .int .u64 0, .int .u64 0, .int .u64 0, .bool false, .bool false]); Go.binOp .neq 63 (.agg #[.int .u64 (ai : Int), .int .u64 (ah : Int), .int .u64 (ad : Int), .int .u64 (am : Int), .int .u64 (aw : Int), .bool aa, .bool ab, .int .u64 (bi : Int), .int .u64 (bh : Int), .int .u64 (bd : Int), .int .u64 (bm : Int), .int .u64 (bw : Int), .bool ba, .bool bb]) (.agg #[.int .u64 0, .int .u64 0, .int .u64 0, .int .u64 0, .int .u64 0, .bool false, .bool false, .int .u64 0, .int .u64 0, .int .u64 0, .int .u64 0, .int .u64 0, .bool false, .bool false]) : Sem Value).run Try.prog W = Result.ok (.bool (!(zeroB ⟨ai, ah, ad, am, aw, aa, ab⟩ && zeroB ⟨bi, bh, bd, bm, bw, ba, bb⟩))) W := by
  go_simp
  unfold zeroB
  by_cases h_ai : ai = 0
  case neg => simp [h_ai]
  by_cases h_ah : ah = 0
  case neg => simp [h_ai, h_ah]
  by_cases h_ad : ad = 0
  case neg => simp [h_ai, h_ah, h_ad]
  by_cases h_am : am = 0
  case neg => simp [h_ai, h_ah, h_ad, h_am]
  by_cases h_aw : aw = 0
  case neg => simp [h_ai, h_ah, h_ad, h_am, h_aw]
  by_cases h_aa : aa = true
  case pos => simp [h_ai, h_ah, h_ad, h_am, h_aw, h_aa]
  by_cases h_ab : ab = true
  case pos => simp [h_ai, h_ah, h_ad, h_am, h_aw, h_aa, h_ab]
  by_cases h_bi : bi = 0
  case neg => simp [h_ai, h_ah, h_ad, h_am, h_aw, h_aa, h_ab, h_bi]
  by_cases h_bh : bh = 0
  case neg => simp [h_ai, h_ah, h_ad, h_am, h_aw, h_aa, h_ab, h_bi, h_bh]
  by_cases h_bd : bd = 0
  case neg => simp [h_ai, h_ah, h_ad, h_am, h_aw, h_aa, h_ab, h_bi, h_bh, h_bd]
  by_cases h_bm : bm = 0
  case neg => simp [h_ai, h_ah, h_ad, h_am, h_aw, h_aa, h_ab, h_bi, h_bh, h_bd, h_bm]
  by_cases h_bw : bw = 0
  case neg => simp [h_ai, h_ah, h_ad, h_am, h_aw, h_aa, h_ab, h_bi, h_bh, h_bd, h_bm, h_bw]
  by_cases h_ba : ba = true
  case pos => simp [h_ai, h_ah, h_ad, h_am, h_aw, h_aa, h_ab, h_bi, h_bh, h_bd, h_bm, h_bw, h_ba]
  by_cases h_bb : bb = true
  case pos => simp [h_ai, h_ah, h_ad, h_am, h_aw, h_aa, h_ab, h_bi, h_bh, h_bd, h_bm, h_bw, h_ba, h_bb]
  simp [h_ai, h_ah, h_ad, h_am, h_aw, h_aa, h_ab, h_bi, h_bh, h_bd, h_bm, h_bw, h_ba, h_bb]
end Go.Proofs.Ytcnoapogeohmkaa


namespace Go.Proofs.Ytcnoapogeohmkaa
open Go.RowKit
end Go.Proofs.Ytcnoapogeohmkaa


namespace Go.Proofs.Ytcnoapogeohmkaa
open Go.RowKit
set_option linter.unusedVariables false
end Go.Proofs.Ytcnoapogeohmkaa
