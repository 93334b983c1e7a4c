/-
  No cell of these rows narrows 'for every input' (looked for: loops, veiled, ifaces, maps, wideKeys, modest, calm, conditions, laid).
  DERIVED. THE GIVEN ROWS OF THIS SEAT. 9 by the template 'for every input the law returns true; each argument reads behind the call as it read before'; 0 by the template 'total and deterministic' (their statements: YtikjefghpnffkaaTotals.lean).
  GIVEN WITH THE SEED: the statements are not yours to turn. If you find one false, say at which input.
  Laid BY PROGRAM, IN A SANDBOX (cutbox-rows.mjs): the forced cells as the released guide's own fill.sh prints them over the translation e323617ad95df3a1… (all of the seat's roots in one cut). By AI agents, Wed Nov 11 2026. No macro, syntax, notation, axiom, sorry.
-/
import Derived.Test.YtikjefghpnffkaaChecked
import GoSem.Claim
import GoSem.ClaimJoined
import GoSem.ClaimMapViews
import Derived.JoinedTies
import Derived.KernelRfl
namespace Go.Proofs.Ytikjefghpnffkaa
/- THE CELL 'sum', in the pinned program and in every row, IS THE sha256 OF THE DUMP (.gsa) THAT YtikjefghpnffkaaProg.lean LOADS. Nothing in Lean hashes anything: it is a label: what it is worth is what the hold of that sum in a sandbox is worth. -/
noncomputable def Try.pinned : Pinned := { name := "ytikjefghpnffkaa", sum := "e323617ad95df3a13e1a2d958f332dfe1bd684420df5a3a9cf6fa2adae58a419", checked := Try.checked }
namespace Rows
def none {H : Type} : Left H := { results := [], args := [] }

/-- 'tidelaw.CronSeeks': WHATEVER THE INPUT: true; the input reads as it did. -/
def cronSeeksSpec : ChangeSpec := { name := "cronSeeks", fn := fun _ => fun
  | [d1, d2, d3] => { results := [.lit (.bool true)], args := [d1, d2, d3] }
  | _ => none }
def cronSeeksRow : OpenClaim := { program := "ytikjefghpnffkaa", sum := "e323617ad95df3a13e1a2d958f332dfe1bd684420df5a3a9cf6fa2adae58a419", func := "tidewheel/tidelaw.CronSeeks", spec := "cronSeeks", apart := false }
def CronSeeksSaid : Prop := cronSeeksRow.holds Try.pinned (OpenSpec.ofChange cronSeeksSpec)

/-- ITS FALSE NEIGHBOUR: 'it returns false'. Refute it at one input. -/
def cronSeeksWrong : ChangeSpec := { name := "cronSeeks", fn := fun _ => fun
  | [d1, d2, d3] => { results := [.lit (.bool false)], args := [d1, d2, d3] }
  | _ => none }
def CronSeeksWrongFalsely : Prop := cronSeeksRow.holds Try.pinned (OpenSpec.ofChange cronSeeksWrong)

/-- 'tidekeep.CronDaily': WHATEVER THE INPUT: true; the input reads as it did. -/
def cronDailySpec : ChangeSpec := { name := "cronDaily", fn := fun _ => fun
  | [d1, d2, d3, d4] => { results := [.lit (.bool true)], args := [d1, d2, d3, d4] }
  | _ => none }
def cronDailyRow : OpenClaim := { program := "ytikjefghpnffkaa", sum := "e323617ad95df3a13e1a2d958f332dfe1bd684420df5a3a9cf6fa2adae58a419", func := "tidewheel/tidekeep.CronDaily", spec := "cronDaily", apart := false }
def CronDailySaid : Prop := cronDailyRow.holds Try.pinned (OpenSpec.ofChange cronDailySpec)

/-- ITS FALSE NEIGHBOUR: 'it returns false'. Refute it at one input. -/
def cronDailyWrong : ChangeSpec := { name := "cronDaily", fn := fun _ => fun
  | [d1, d2, d3, d4] => { results := [.lit (.bool false)], args := [d1, d2, d3, d4] }
  | _ => none }
def CronDailyWrongFalsely : Prop := cronDailyRow.holds Try.pinned (OpenSpec.ofChange cronDailyWrong)

/-- 'tidekeep.CronNext': WHATEVER THE INPUT: true; the input reads as it did. -/
def cronNextSpec : ChangeSpec := { name := "cronNext", fn := fun _ => fun
  | [d1, d2, d3] => { results := [.lit (.bool true)], args := [d1, d2, d3] }
  | _ => none }
def cronNextRow : OpenClaim := { program := "ytikjefghpnffkaa", sum := "e323617ad95df3a13e1a2d958f332dfe1bd684420df5a3a9cf6fa2adae58a419", func := "tidewheel/tidekeep.CronNext", spec := "cronNext", apart := false }
def CronNextSaid : Prop := cronNextRow.holds Try.pinned (OpenSpec.ofChange cronNextSpec)

/-- ITS FALSE NEIGHBOUR: 'it returns false'. Refute it at one input. -/
def cronNextWrong : ChangeSpec := { name := "cronNext", fn := fun _ => fun
  | [d1, d2, d3] => { results := [.lit (.bool false)], args := [d1, d2, d3] }
  | _ => none }
def CronNextWrongFalsely : Prop := cronNextRow.holds Try.pinned (OpenSpec.ofChange cronNextWrong)

/-- 'tidekeep.SpanSwaps': WHATEVER THE INPUT: true; the input reads as it did. -/
def spanSwapsSpec : ChangeSpec := { name := "spanSwaps", fn := fun _ => fun
  | [d1, d2, d3] => { results := [.lit (.bool true)], args := [d1, d2, d3] }
  | _ => none }
def spanSwapsRow : OpenClaim := { program := "ytikjefghpnffkaa", sum := "e323617ad95df3a13e1a2d958f332dfe1bd684420df5a3a9cf6fa2adae58a419", func := "tidewheel/tidekeep.SpanSwaps", spec := "spanSwaps", apart := false }
def SpanSwapsSaid : Prop := spanSwapsRow.holds Try.pinned (OpenSpec.ofChange spanSwapsSpec)

/-- ITS FALSE NEIGHBOUR: 'it returns false'. Refute it at one input. -/
def spanSwapsWrong : ChangeSpec := { name := "spanSwaps", fn := fun _ => fun
  | [d1, d2, d3] => { results := [.lit (.bool false)], args := [d1, d2, d3] }
  | _ => none }
def SpanSwapsWrongFalsely : Prop := spanSwapsRow.holds Try.pinned (OpenSpec.ofChange spanSwapsWrong)

/-- 'tidelaw.SpanSays': WHATEVER THE INPUT: true; the input reads as it did. -/
def spanSaysSpec : ChangeSpec := { name := "spanSays", fn := fun _ => fun
  | [d1, d2, d3] => { results := [.lit (.bool true)], args := [d1, d2, d3] }
  | _ => none }
def spanSaysRow : OpenClaim := { program := "ytikjefghpnffkaa", sum := "e323617ad95df3a13e1a2d958f332dfe1bd684420df5a3a9cf6fa2adae58a419", func := "tidewheel/tidelaw.SpanSays", spec := "spanSays", apart := false }
def SpanSaysSaid : Prop := spanSaysRow.holds Try.pinned (OpenSpec.ofChange spanSaysSpec)

/-- ITS FALSE NEIGHBOUR: 'it returns false'. Refute it at one input. -/
def spanSaysWrong : ChangeSpec := { name := "spanSays", fn := fun _ => fun
  | [d1, d2, d3] => { results := [.lit (.bool false)], args := [d1, d2, d3] }
  | _ => none }
def SpanSaysWrongFalsely : Prop := spanSaysRow.holds Try.pinned (OpenSpec.ofChange spanSaysWrong)

/-- 'tidekeep.SpanEdges': WHATEVER THE INPUT: true; the input reads as it did. -/
def spanEdgesSpec : ChangeSpec := { name := "spanEdges", fn := fun _ => fun
  | [d1, d2, d3, d4] => { results := [.lit (.bool true)], args := [d1, d2, d3, d4] }
  | _ => none }
def spanEdgesRow : OpenClaim := { program := "ytikjefghpnffkaa", sum := "e323617ad95df3a13e1a2d958f332dfe1bd684420df5a3a9cf6fa2adae58a419", func := "tidewheel/tidekeep.SpanEdges", spec := "spanEdges", apart := false }
def SpanEdgesSaid : Prop := spanEdgesRow.holds Try.pinned (OpenSpec.ofChange spanEdgesSpec)

/-- ITS FALSE NEIGHBOUR: 'it returns false'. Refute it at one input. -/
def spanEdgesWrong : ChangeSpec := { name := "spanEdges", fn := fun _ => fun
  | [d1, d2, d3, d4] => { results := [.lit (.bool false)], args := [d1, d2, d3, d4] }
  | _ => none }
def SpanEdgesWrongFalsely : Prop := spanEdgesRow.holds Try.pinned (OpenSpec.ofChange spanEdgesWrong)

/-- 'tidekeep.NeedGrows': WHATEVER THE INPUT: true; the input reads as it did. -/
def needGrowsSpec : ChangeSpec := { name := "needGrows", fn := fun _ => fun
  | [d1, d2, d3, d4] => { results := [.lit (.bool true)], args := [d1, d2, d3, d4] }
  | _ => none }
def needGrowsRow : OpenClaim := { program := "ytikjefghpnffkaa", sum := "e323617ad95df3a13e1a2d958f332dfe1bd684420df5a3a9cf6fa2adae58a419", func := "tidewheel/tidekeep.NeedGrows", spec := "needGrows", apart := false }
def NeedGrowsSaid : Prop := needGrowsRow.holds Try.pinned (OpenSpec.ofChange needGrowsSpec)

/-- ITS FALSE NEIGHBOUR: 'it returns false'. Refute it at one input. -/
def needGrowsWrong : ChangeSpec := { name := "needGrows", fn := fun _ => fun
  | [d1, d2, d3, d4] => { results := [.lit (.bool false)], args := [d1, d2, d3, d4] }
  | _ => none }
def NeedGrowsWrongFalsely : Prop := needGrowsRow.holds Try.pinned (OpenSpec.ofChange needGrowsWrong)

/-- 'tidelaw.NeedSays': WHATEVER THE INPUT: true; the input reads as it did. -/
def needSaysSpec : ChangeSpec := { name := "needSays", fn := fun _ => fun
  | [d1, d2, d3, d4, d5, d6] => { results := [.lit (.bool true)], args := [d1, d2, d3, d4, d5, d6] }
  | _ => none }
def needSaysRow : OpenClaim := { program := "ytikjefghpnffkaa", sum := "e323617ad95df3a13e1a2d958f332dfe1bd684420df5a3a9cf6fa2adae58a419", func := "tidewheel/tidelaw.NeedSays", spec := "needSays", apart := false }
def NeedSaysSaid : Prop := needSaysRow.holds Try.pinned (OpenSpec.ofChange needSaysSpec)

/-- ITS FALSE NEIGHBOUR: 'it returns false'. Refute it at one input. -/
def needSaysWrong : ChangeSpec := { name := "needSays", fn := fun _ => fun
  | [d1, d2, d3, d4, d5, d6] => { results := [.lit (.bool false)], args := [d1, d2, d3, d4, d5, d6] }
  | _ => none }
def NeedSaysWrongFalsely : Prop := needSaysRow.holds Try.pinned (OpenSpec.ofChange needSaysWrong)

/-- 'tidekeep.NeedStays': WHATEVER THE INPUT: true; the input reads as it did. -/
def needStaysSpec : ChangeSpec := { name := "needStays", fn := fun _ => fun
  | [d1, d2, d3, d4] => { results := [.lit (.bool true)], args := [d1, d2, d3, d4] }
  | _ => none }
def needStaysRow : OpenClaim := { program := "ytikjefghpnffkaa", sum := "e323617ad95df3a13e1a2d958f332dfe1bd684420df5a3a9cf6fa2adae58a419", func := "tidewheel/tidekeep.NeedStays", spec := "needStays", apart := false }
def NeedStaysSaid : Prop := needStaysRow.holds Try.pinned (OpenSpec.ofChange needStaysSpec)

/-- ITS FALSE NEIGHBOUR: 'it returns false'. Refute it at one input. -/
def needStaysWrong : ChangeSpec := { name := "needStays", fn := fun _ => fun
  | [d1, d2, d3, d4] => { results := [.lit (.bool false)], args := [d1, d2, d3, d4] }
  | _ => none }
def NeedStaysWrongFalsely : Prop := needStaysRow.holds Try.pinned (OpenSpec.ofChange needStaysWrong)

/- THE SECOND FORM. 'bulk': how many values and letters a reading holds, each counted each time it is reached (what is shared counts as often as it is met; a slice's spare places count too). A statement '..UptoSaid' is the law's where the arguments, and the package variables that the reading takes, are together of bulk at most 1048576: NARROWER than '..Said'. Prove '..Said' where nothing that the law and all that it calls make is longer than what came in: it says more and counts as full. Else prove '..UptoSaid'. A law counts once. -/
mutual
def uptoBulk {H : Type} : DataW H → Nat
  | .lit (.string bytes) => bytes.length + 1
  | .lit _ => 1
  | .nil => 1
  | .ptr d => uptoBulk d + 1
  | .slice elems spare => uptoBulkAll elems + uptoBulkAll spare + 1
  | .agg parts => uptoBulkAll parts + 1
  | .iface _ d => uptoBulk d + 1
  | .map entries => uptoBulkEntries entries + 1
  | .held _ => 1
def uptoBulkAll {H : Type} : List (DataW H) → Nat
  | [] => 0
  | d :: r => uptoBulk d + uptoBulkAll r
def uptoBulkEntries {H : Type} : List (Lit × DataW H) → Nat
  | [] => 0
  | x :: r => uptoBulkEntry x + uptoBulkEntries r
def uptoBulkEntry {H : Type} : Lit × DataW H → Nat
  | (.string bytes, d) => bytes.length + uptoBulk d + 1
  | (_, d) => uptoBulk d + 1
 end
def uptoSmall : (H : Type) → List (DataW H) → Bool := fun _ ds => decide (uptoBulkAll ds ≤ 1048576)
def OpenSpec.upto (s : _root_.Go.ChangeSpec) : _root_.Go.OpenSpec := { _root_.Go.OpenSpec.ofChange s with cond := some uptoSmall }

/-- 'tidelaw.CronSeeks', WHERE WHAT IT READS IS OF BULK AT MOST 1048576: true; the input reads as it did. -/
def cronSeeksUptoRow : OpenClaim := { program := "ytikjefghpnffkaa", sum := "e323617ad95df3a13e1a2d958f332dfe1bd684420df5a3a9cf6fa2adae58a419", func := "tidewheel/tidelaw.CronSeeks", spec := "cronSeeks", apart := false, narrowed := true }
def CronSeeksUptoSaid : Prop := cronSeeksUptoRow.holds Try.pinned (OpenSpec.upto cronSeeksSpec)

/-- 'tidekeep.CronDaily', WHERE WHAT IT READS IS OF BULK AT MOST 1048576: true; the input reads as it did. -/
def cronDailyUptoRow : OpenClaim := { program := "ytikjefghpnffkaa", sum := "e323617ad95df3a13e1a2d958f332dfe1bd684420df5a3a9cf6fa2adae58a419", func := "tidewheel/tidekeep.CronDaily", spec := "cronDaily", apart := false, narrowed := true }
def CronDailyUptoSaid : Prop := cronDailyUptoRow.holds Try.pinned (OpenSpec.upto cronDailySpec)

/-- 'tidekeep.CronNext', WHERE WHAT IT READS IS OF BULK AT MOST 1048576: true; the input reads as it did. -/
def cronNextUptoRow : OpenClaim := { program := "ytikjefghpnffkaa", sum := "e323617ad95df3a13e1a2d958f332dfe1bd684420df5a3a9cf6fa2adae58a419", func := "tidewheel/tidekeep.CronNext", spec := "cronNext", apart := false, narrowed := true }
def CronNextUptoSaid : Prop := cronNextUptoRow.holds Try.pinned (OpenSpec.upto cronNextSpec)

/-- 'tidekeep.SpanSwaps', WHERE WHAT IT READS IS OF BULK AT MOST 1048576: true; the input reads as it did. -/
def spanSwapsUptoRow : OpenClaim := { program := "ytikjefghpnffkaa", sum := "e323617ad95df3a13e1a2d958f332dfe1bd684420df5a3a9cf6fa2adae58a419", func := "tidewheel/tidekeep.SpanSwaps", spec := "spanSwaps", apart := false, narrowed := true }
def SpanSwapsUptoSaid : Prop := spanSwapsUptoRow.holds Try.pinned (OpenSpec.upto spanSwapsSpec)

/-- 'tidelaw.SpanSays', WHERE WHAT IT READS IS OF BULK AT MOST 1048576: true; the input reads as it did. -/
def spanSaysUptoRow : OpenClaim := { program := "ytikjefghpnffkaa", sum := "e323617ad95df3a13e1a2d958f332dfe1bd684420df5a3a9cf6fa2adae58a419", func := "tidewheel/tidelaw.SpanSays", spec := "spanSays", apart := false, narrowed := true }
def SpanSaysUptoSaid : Prop := spanSaysUptoRow.holds Try.pinned (OpenSpec.upto spanSaysSpec)

/-- 'tidekeep.SpanEdges', WHERE WHAT IT READS IS OF BULK AT MOST 1048576: true; the input reads as it did. -/
def spanEdgesUptoRow : OpenClaim := { program := "ytikjefghpnffkaa", sum := "e323617ad95df3a13e1a2d958f332dfe1bd684420df5a3a9cf6fa2adae58a419", func := "tidewheel/tidekeep.SpanEdges", spec := "spanEdges", apart := false, narrowed := true }
def SpanEdgesUptoSaid : Prop := spanEdgesUptoRow.holds Try.pinned (OpenSpec.upto spanEdgesSpec)

/-- 'tidekeep.NeedGrows', WHERE WHAT IT READS IS OF BULK AT MOST 1048576: true; the input reads as it did. -/
def needGrowsUptoRow : OpenClaim := { program := "ytikjefghpnffkaa", sum := "e323617ad95df3a13e1a2d958f332dfe1bd684420df5a3a9cf6fa2adae58a419", func := "tidewheel/tidekeep.NeedGrows", spec := "needGrows", apart := false, narrowed := true }
def NeedGrowsUptoSaid : Prop := needGrowsUptoRow.holds Try.pinned (OpenSpec.upto needGrowsSpec)

/-- 'tidelaw.NeedSays', WHERE WHAT IT READS IS OF BULK AT MOST 1048576: true; the input reads as it did. -/
def needSaysUptoRow : OpenClaim := { program := "ytikjefghpnffkaa", sum := "e323617ad95df3a13e1a2d958f332dfe1bd684420df5a3a9cf6fa2adae58a419", func := "tidewheel/tidelaw.NeedSays", spec := "needSays", apart := false, narrowed := true }
def NeedSaysUptoSaid : Prop := needSaysUptoRow.holds Try.pinned (OpenSpec.upto needSaysSpec)

/-- 'tidekeep.NeedStays', WHERE WHAT IT READS IS OF BULK AT MOST 1048576: true; the input reads as it did. -/
def needStaysUptoRow : OpenClaim := { program := "ytikjefghpnffkaa", sum := "e323617ad95df3a13e1a2d958f332dfe1bd684420df5a3a9cf6fa2adae58a419", func := "tidewheel/tidekeep.NeedStays", spec := "needStays", apart := false, narrowed := true }
def NeedStaysUptoSaid : Prop := needStaysUptoRow.holds Try.pinned (OpenSpec.upto needStaysSpec)

end Rows
end Go.Proofs.Ytikjefghpnffkaa
