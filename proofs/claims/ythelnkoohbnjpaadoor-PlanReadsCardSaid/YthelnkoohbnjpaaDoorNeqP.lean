/- Two spans compared, as a law: one way, not fifteen. -/
import Derived.Test.YthelnkoohbnjpaaDoorZCron
import Derived.RegionTactic
set_option linter.unusedVariables false
set_option linter.unusedSimpArgs false
namespace Go.Proofs.YthelnkoohbnjpaaDoor
open Go.RowKit
set_option linter.unusedVariables false
theorem neq_law {P : Program} {ops : Array Oper} {rest : List Oper} {o : Oper} {a : Act} {w : World} {Q : Exit → Act → World → Prop} (hw : Region.wanted o (yielded ops a.tmps) = true) (t rt : TypeId) (x y : Operand) (ho : o.op = .binOp .neq t x y rt) (vx vy : Value) (hx : a.eval x = vx) (hy : a.eval y = vy) (b : Bool)
    (hv : ∀ W : World, (do eqGuard .neq t x y vx vy; Go.binOp .neq t vx vy : Sem Value).run P W = Result.ok (.bool b) W) (k : wpList P ops Q rest (a.put o.dst (.bool b)) w) : wpList P ops Q (o :: rest) a w :=
  wpList_step fun K hK => by
    rw [if_pos hw]
    subst hx hy
    have h2 := hv w
    unfold Oper.wp execOp
    simp only [ho]
    simp only [Sem.run_bind, Sem.run_pure] at h2 ⊢
    rw [h2]
    simp only [Result.andThen_ok]
    exact hK _ _ k
def zerosV : Array Value := #[.int .u64 0, .int .u64 0, .int .u64 0, .int .u64 0, .int .u64 0, .bool false, .bool false, .int .u64 0, .int .u64 0, .int .u64 0, .int .u64 0, .int .u64 0, .bool false, .bool false]
def zeroB (c : Cr) : Bool := c.mi == 0 && c.h == 0 && c.d == 0 && c.mo == 0 && c.wk == 0 && !c.ad && !c.aw
set_option maxRecDepth 100000 in
theorem span_neq (ai ah ad am aw bi bh bd bm bw : Nat) (aa ab ba bb : Bool) (x y : Operand) (W : World) : (do eqGuard .neq 80 x y (.agg #[.int .u64 (ai : Int), .int .u64 (ah : Int), .int .u64 (ad : Int), .int .u64 (am : Int), .int .u64 (aw : Int), .bool aa, .bool ab, .int .u64 (bi : Int), .int .u64 (bh : Int), .int .u64 (bd : Int), .int .u64 (bm : Int), .int .u64 (bw : Int), .bool ba, .bool bb]) (.agg #[.int .u64 0, .int .u64 0, .int .u64 0, .int .u64 0, .int .u64 0, .bool false, .bool false, .int .u64 0, .int .u64 0, .int .u64 0, .int .u64 0, .int .u64 0, .bool false, .bool false]); Go.binOp .neq 80 (.agg #[.int .u64 (ai : Int), .int .u64 (ah : Int), .int .u64 (ad : Int), .int .u64 (am : Int), .int .u64 (aw : Int), .bool aa, .bool ab, .int .u64 (bi : Int), .int .u64 (bh : Int), .int .u64 (bd : Int), .int .u64 (bm : Int), .int .u64 (bw : Int), .bool ba, .bool bb]) (.agg #[.int .u64 0, .int .u64 0, .int .u64 0, .int .u64 0, .int .u64 0, .bool false, .bool false, .int .u64 0, .int .u64 0, .int .u64 0, .int .u64 0, .int .u64 0, .bool false, .bool false]) : Sem Value).run Tryd.prog W = Result.ok (.bool (!(zeroB ⟨ai, ah, ad, am, aw, aa, ab⟩ && zeroB ⟨bi, bh, bd, bm, bw, ba, bb⟩))) W := by
  go_simp
  unfold zeroB
  by_cases h_ai : ai = 0
  case neg => simp [h_ai]
  by_cases h_ah : ah = 0
  case neg => simp [h_ai, h_ah]
  by_cases h_ad : ad = 0
  case neg => simp [h_ai, h_ah, h_ad]
  by_cases h_am : am = 0
  case neg => simp [h_ai, h_ah, h_ad, h_am]
  by_cases h_aw : aw = 0
  case neg => simp [h_ai, h_ah, h_ad, h_am, h_aw]
  by_cases h_aa : aa = true
  case pos => simp [h_ai, h_ah, h_ad, h_am, h_aw, h_aa]
  by_cases h_ab : ab = true
  case pos => simp [h_ai, h_ah, h_ad, h_am, h_aw, h_aa, h_ab]
  by_cases h_bi : bi = 0
  case neg => simp [h_ai, h_ah, h_ad, h_am, h_aw, h_aa, h_ab, h_bi]
  by_cases h_bh : bh = 0
  case neg => simp [h_ai, h_ah, h_ad, h_am, h_aw, h_aa, h_ab, h_bi, h_bh]
  by_cases h_bd : bd = 0
  case neg => simp [h_ai, h_ah, h_ad, h_am, h_aw, h_aa, h_ab, h_bi, h_bh, h_bd]
  by_cases h_bm : bm = 0
  case neg => simp [h_ai, h_ah, h_ad, h_am, h_aw, h_aa, h_ab, h_bi, h_bh, h_bd, h_bm]
  by_cases h_bw : bw = 0
  case neg => simp [h_ai, h_ah, h_ad, h_am, h_aw, h_aa, h_ab, h_bi, h_bh, h_bd, h_bm, h_bw]
  by_cases h_ba : ba = true
  case pos => simp [h_ai, h_ah, h_ad, h_am, h_aw, h_aa, h_ab, h_bi, h_bh, h_bd, h_bm, h_bw, h_ba]
  by_cases h_bb : bb = true
  case pos => simp [h_ai, h_ah, h_ad, h_am, h_aw, h_aa, h_ab, h_bi, h_bh, h_bd, h_bm, h_bw, h_ba, h_bb]
  simp [h_ai, h_ah, h_ad, h_am, h_aw, h_aa, h_ab, h_bi, h_bh, h_bd, h_bm, h_bw, h_ba, h_bb]
end Go.Proofs.YthelnkoohbnjpaaDoor
