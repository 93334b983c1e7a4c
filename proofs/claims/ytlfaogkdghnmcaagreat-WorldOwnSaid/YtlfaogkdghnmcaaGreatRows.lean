/-
  No cell of these rows narrows 'for every input' (looked for: loops, veiled, ifaces, maps, wideKeys, modest, calm, conditions, laid).
  DERIVED. THE GIVEN ROWS OF THIS SEAT. 10 by the template 'for every input the law returns true; each argument reads behind the call as it read before'; 0 by the template 'total and deterministic' (their statements: YtlfaogkdghnmcaaGreatTotals.lean).
  GIVEN WITH THE SEED: the statements are not yours to turn. If you find one false, say at which input.
  Laid BY PROGRAM, IN A SANDBOX (cutbox-rows.mjs): the forced cells as the released guide's own fill.sh prints them over the translation 227ba3b49cdf82bd… (all of the seat's roots in one cut). By AI agents, Wed Nov 11 2026. No macro, syntax, notation, axiom, sorry.
-/
import Derived.Test.YtlfaogkdghnmcaaGreatChecked
import GoSem.Claim
import GoSem.ClaimJoined
import GoSem.ClaimMapViews
import Derived.JoinedTies
import Derived.KernelRfl
namespace Go.Proofs.YtlfaogkdghnmcaaGreat
/- THE CELL 'sum', in the pinned program and in every row, IS THE sha256 OF THE DUMP (.gsa) THAT YtlfaogkdghnmcaaGreatProg.lean LOADS. Nothing in Lean hashes anything: it is a label: what it is worth is what the hold of that sum in a sandbox is worth. -/
noncomputable def Tryz.pinned : Pinned := { name := "ytlfaogkdghnmcaagreat", sum := "227ba3b49cdf82bd7788ead5b1935125c2e9bcdf0fd4a17353b89e645071ddaf", checked := Tryz.checked }
namespace Rows
def none {H : Type} : Left H := { results := [], args := [] }

/-- 'tidetop.TopNeeds': WHATEVER THE INPUT: true; the input reads as it did. -/
def topNeedsSpec : ChangeSpec := { name := "topNeeds", fn := fun _ => fun
  | [d1, d2] => { results := [.lit (.bool true)], args := [d1, d2] }
  | _ => none }
def topNeedsRow : OpenClaim := { program := "ytlfaogkdghnmcaagreat", sum := "227ba3b49cdf82bd7788ead5b1935125c2e9bcdf0fd4a17353b89e645071ddaf", func := "tidewheel/tidetop.TopNeeds", spec := "topNeeds", unfollowed := true, recurses := true, apart := false }
def TopNeedsSaid : Prop := topNeedsRow.holds Tryz.pinned (OpenSpec.ofChange topNeedsSpec)

/-- ITS FALSE NEIGHBOUR: 'it returns false'. Refute it at one input. -/
def topNeedsWrong : ChangeSpec := { name := "topNeeds", fn := fun _ => fun
  | [d1, d2] => { results := [.lit (.bool false)], args := [d1, d2] }
  | _ => none }
def TopNeedsWrongFalsely : Prop := topNeedsRow.holds Tryz.pinned (OpenSpec.ofChange topNeedsWrong)

/-- 'tidetop.TopOnce': WHATEVER THE INPUT: true; the input reads as it did. -/
def topOnceSpec : ChangeSpec := { name := "topOnce", fn := fun _ => fun
  | [d1, d2, d3, d4, d5] => { results := [.lit (.bool true)], args := [d1, d2, d3, d4, d5] }
  | _ => none }
def topOnceRow : OpenClaim := { program := "ytlfaogkdghnmcaagreat", sum := "227ba3b49cdf82bd7788ead5b1935125c2e9bcdf0fd4a17353b89e645071ddaf", func := "tidewheel/tidetop.TopOnce", spec := "topOnce", unfollowed := true, recurses := true, apart := false }
def TopOnceSaid : Prop := topOnceRow.holds Tryz.pinned (OpenSpec.ofChange topOnceSpec)

/-- ITS FALSE NEIGHBOUR: 'it returns false'. Refute it at one input. -/
def topOnceWrong : ChangeSpec := { name := "topOnce", fn := fun _ => fun
  | [d1, d2, d3, d4, d5] => { results := [.lit (.bool false)], args := [d1, d2, d3, d4, d5] }
  | _ => none }
def TopOnceWrongFalsely : Prop := topOnceRow.holds Tryz.pinned (OpenSpec.ofChange topOnceWrong)

/-- 'tidetop.TopLate': WHATEVER THE INPUT: true; the input reads as it did. -/
def topLateSpec : ChangeSpec := { name := "topLate", fn := fun _ => fun
  | [d1, d2, d3, d4, d5] => { results := [.lit (.bool true)], args := [d1, d2, d3, d4, d5] }
  | _ => none }
def topLateRow : OpenClaim := { program := "ytlfaogkdghnmcaagreat", sum := "227ba3b49cdf82bd7788ead5b1935125c2e9bcdf0fd4a17353b89e645071ddaf", func := "tidewheel/tidetop.TopLate", spec := "topLate", unfollowed := true, recurses := true, apart := false }
def TopLateSaid : Prop := topLateRow.holds Tryz.pinned (OpenSpec.ofChange topLateSpec)

/-- ITS FALSE NEIGHBOUR: 'it returns false'. Refute it at one input. -/
def topLateWrong : ChangeSpec := { name := "topLate", fn := fun _ => fun
  | [d1, d2, d3, d4, d5] => { results := [.lit (.bool false)], args := [d1, d2, d3, d4, d5] }
  | _ => none }
def TopLateWrongFalsely : Prop := topLateRow.holds Tryz.pinned (OpenSpec.ofChange topLateWrong)

/-- 'tidekeep.WorldLoads': WHATEVER THE INPUT: true; the input reads as it did. -/
def worldLoadsSpec : ChangeSpec := { name := "worldLoads", fn := fun _ => fun
  | [d1, d2, d3, d4, d5] => { results := [.lit (.bool true)], args := [d1, d2, d3, d4, d5] }
  | _ => none }
def worldLoadsRow : OpenClaim := { program := "ytlfaogkdghnmcaagreat", sum := "227ba3b49cdf82bd7788ead5b1935125c2e9bcdf0fd4a17353b89e645071ddaf", func := "tidewheel/tidekeep.WorldLoads", spec := "worldLoads", unfollowed := true, recurses := true, apart := false }
def WorldLoadsSaid : Prop := worldLoadsRow.holds Tryz.pinned (OpenSpec.ofChange worldLoadsSpec)

/-- ITS FALSE NEIGHBOUR: 'it returns false'. Refute it at one input. -/
def worldLoadsWrong : ChangeSpec := { name := "worldLoads", fn := fun _ => fun
  | [d1, d2, d3, d4, d5] => { results := [.lit (.bool false)], args := [d1, d2, d3, d4, d5] }
  | _ => none }
def WorldLoadsWrongFalsely : Prop := worldLoadsRow.holds Tryz.pinned (OpenSpec.ofChange worldLoadsWrong)

/-- 'tidekeep.WorldTicks': WHATEVER THE INPUT: true; the input reads as it did. -/
def worldTicksSpec : ChangeSpec := { name := "worldTicks", fn := fun _ => fun
  | [d1, d2, d3, d4, d5, d6] => { results := [.lit (.bool true)], args := [d1, d2, d3, d4, d5, d6] }
  | _ => none }
def worldTicksRow : OpenClaim := { program := "ytlfaogkdghnmcaagreat", sum := "227ba3b49cdf82bd7788ead5b1935125c2e9bcdf0fd4a17353b89e645071ddaf", func := "tidewheel/tidekeep.WorldTicks", spec := "worldTicks", unfollowed := true, recurses := true, apart := false }
def WorldTicksSaid : Prop := worldTicksRow.holds Tryz.pinned (OpenSpec.ofChange worldTicksSpec)

/-- ITS FALSE NEIGHBOUR: 'it returns false'. Refute it at one input. -/
def worldTicksWrong : ChangeSpec := { name := "worldTicks", fn := fun _ => fun
  | [d1, d2, d3, d4, d5, d6] => { results := [.lit (.bool false)], args := [d1, d2, d3, d4, d5, d6] }
  | _ => none }
def WorldTicksWrongFalsely : Prop := worldTicksRow.holds Tryz.pinned (OpenSpec.ofChange worldTicksWrong)

/-- 'tidekeep.WorldOwn': WHATEVER THE INPUT: true; the input reads as it did. -/
def worldOwnSpec : ChangeSpec := { name := "worldOwn", fn := fun _ => fun
  | [d1, d2] => { results := [.lit (.bool true)], args := [d1, d2] }
  | _ => none }
def worldOwnRow : OpenClaim := { program := "ytlfaogkdghnmcaagreat", sum := "227ba3b49cdf82bd7788ead5b1935125c2e9bcdf0fd4a17353b89e645071ddaf", func := "tidewheel/tidekeep.WorldOwn", spec := "worldOwn", unfollowed := true, recurses := true, apart := false }
def WorldOwnSaid : Prop := worldOwnRow.holds Tryz.pinned (OpenSpec.ofChange worldOwnSpec)

/-- ITS FALSE NEIGHBOUR: 'it returns false'. Refute it at one input. -/
def worldOwnWrong : ChangeSpec := { name := "worldOwn", fn := fun _ => fun
  | [d1, d2] => { results := [.lit (.bool false)], args := [d1, d2] }
  | _ => none }
def WorldOwnWrongFalsely : Prop := worldOwnRow.holds Tryz.pinned (OpenSpec.ofChange worldOwnWrong)

/-- 'tidelaw.WorldPlays': WHATEVER THE INPUT: true; the input reads as it did. -/
def worldPlaysSpec : ChangeSpec := { name := "worldPlays", fn := fun _ => fun
  | [d1, d2, d3, d4, d5] => { results := [.lit (.bool true)], args := [d1, d2, d3, d4, d5] }
  | _ => none }
def worldPlaysRow : OpenClaim := { program := "ytlfaogkdghnmcaagreat", sum := "227ba3b49cdf82bd7788ead5b1935125c2e9bcdf0fd4a17353b89e645071ddaf", func := "tidewheel/tidelaw.WorldPlays", spec := "worldPlays", unfollowed := true, recurses := true, apart := false }
def WorldPlaysSaid : Prop := worldPlaysRow.holds Tryz.pinned (OpenSpec.ofChange worldPlaysSpec)

/-- ITS FALSE NEIGHBOUR: 'it returns false'. Refute it at one input. -/
def worldPlaysWrong : ChangeSpec := { name := "worldPlays", fn := fun _ => fun
  | [d1, d2, d3, d4, d5] => { results := [.lit (.bool false)], args := [d1, d2, d3, d4, d5] }
  | _ => none }
def WorldPlaysWrongFalsely : Prop := worldPlaysRow.holds Tryz.pinned (OpenSpec.ofChange worldPlaysWrong)

/-- 'tidetop.TopBounds': WHATEVER THE INPUT: true; the input reads as it did. -/
def topBoundsSpec : ChangeSpec := { name := "topBounds", fn := fun _ => fun
  | [d1, d2, d3, d4, d5] => { results := [.lit (.bool true)], args := [d1, d2, d3, d4, d5] }
  | _ => none }
def topBoundsRow : OpenClaim := { program := "ytlfaogkdghnmcaagreat", sum := "227ba3b49cdf82bd7788ead5b1935125c2e9bcdf0fd4a17353b89e645071ddaf", func := "tidewheel/tidetop.TopBounds", spec := "topBounds", unfollowed := true, recurses := true, apart := false }
def TopBoundsSaid : Prop := topBoundsRow.holds Tryz.pinned (OpenSpec.ofChange topBoundsSpec)

/-- ITS FALSE NEIGHBOUR: 'it returns false'. Refute it at one input. -/
def topBoundsWrong : ChangeSpec := { name := "topBounds", fn := fun _ => fun
  | [d1, d2, d3, d4, d5] => { results := [.lit (.bool false)], args := [d1, d2, d3, d4, d5] }
  | _ => none }
def TopBoundsWrongFalsely : Prop := topBoundsRow.holds Tryz.pinned (OpenSpec.ofChange topBoundsWrong)

/-- 'tidetop.TopServed': WHATEVER THE INPUT: true; the input reads as it did. -/
def topServedSpec : ChangeSpec := { name := "topServed", fn := fun _ => fun
  | [d1, d2] => { results := [.lit (.bool true)], args := [d1, d2] }
  | _ => none }
def topServedRow : OpenClaim := { program := "ytlfaogkdghnmcaagreat", sum := "227ba3b49cdf82bd7788ead5b1935125c2e9bcdf0fd4a17353b89e645071ddaf", func := "tidewheel/tidetop.TopServed", spec := "topServed", unfollowed := true, recurses := true, apart := false }
def TopServedSaid : Prop := topServedRow.holds Tryz.pinned (OpenSpec.ofChange topServedSpec)

/-- ITS FALSE NEIGHBOUR: 'it returns false'. Refute it at one input. -/
def topServedWrong : ChangeSpec := { name := "topServed", fn := fun _ => fun
  | [d1, d2] => { results := [.lit (.bool false)], args := [d1, d2] }
  | _ => none }
def TopServedWrongFalsely : Prop := topServedRow.holds Tryz.pinned (OpenSpec.ofChange topServedWrong)

/-- 'tidetop.TopZero': WHATEVER THE INPUT: true; the input reads as it did. -/
def topZeroSpec : ChangeSpec := { name := "topZero", fn := fun _ => fun
  | [d1, d2, d3, d4, d5] => { results := [.lit (.bool true)], args := [d1, d2, d3, d4, d5] }
  | _ => none }
def topZeroRow : OpenClaim := { program := "ytlfaogkdghnmcaagreat", sum := "227ba3b49cdf82bd7788ead5b1935125c2e9bcdf0fd4a17353b89e645071ddaf", func := "tidewheel/tidetop.TopZero", spec := "topZero", unfollowed := true, recurses := true, apart := false }
def TopZeroSaid : Prop := topZeroRow.holds Tryz.pinned (OpenSpec.ofChange topZeroSpec)

/-- ITS FALSE NEIGHBOUR: 'it returns false'. Refute it at one input. -/
def topZeroWrong : ChangeSpec := { name := "topZero", fn := fun _ => fun
  | [d1, d2, d3, d4, d5] => { results := [.lit (.bool false)], args := [d1, d2, d3, d4, d5] }
  | _ => none }
def TopZeroWrongFalsely : Prop := topZeroRow.holds Tryz.pinned (OpenSpec.ofChange topZeroWrong)

/- THE SECOND FORM. 'bulk': how many values and letters a reading holds, each counted each time it is reached (what is shared counts as often as it is met; a slice's spare places count too). A statement '..UptoSaid' is the law's where the arguments, and the package variables that the reading takes, are together of bulk at most 1048576: NARROWER than '..Said'. Prove '..Said' where nothing that the law and all that it calls make is longer than what came in: it says more and counts as full. Else prove '..UptoSaid'. A law counts once. -/
mutual
def uptoBulk {H : Type} : DataW H → Nat
  | .lit (.string bytes) => bytes.length + 1
  | .lit _ => 1
  | .nil => 1
  | .ptr d => uptoBulk d + 1
  | .slice elems spare => uptoBulkAll elems + uptoBulkAll spare + 1
  | .agg parts => uptoBulkAll parts + 1
  | .iface _ d => uptoBulk d + 1
  | .map entries => uptoBulkEntries entries + 1
  | .held _ => 1
def uptoBulkAll {H : Type} : List (DataW H) → Nat
  | [] => 0
  | d :: r => uptoBulk d + uptoBulkAll r
def uptoBulkEntries {H : Type} : List (Lit × DataW H) → Nat
  | [] => 0
  | x :: r => uptoBulkEntry x + uptoBulkEntries r
def uptoBulkEntry {H : Type} : Lit × DataW H → Nat
  | (.string bytes, d) => bytes.length + uptoBulk d + 1
  | (_, d) => uptoBulk d + 1
 end
def uptoSmall : (H : Type) → List (DataW H) → Bool := fun _ ds => decide (uptoBulkAll ds ≤ 1048576)
def OpenSpec.upto (s : _root_.Go.ChangeSpec) : _root_.Go.OpenSpec := { _root_.Go.OpenSpec.ofChange s with cond := some uptoSmall }

/-- 'tidetop.TopNeeds', WHERE WHAT IT READS IS OF BULK AT MOST 1048576: true; the input reads as it did. -/
def topNeedsUptoRow : OpenClaim := { program := "ytlfaogkdghnmcaagreat", sum := "227ba3b49cdf82bd7788ead5b1935125c2e9bcdf0fd4a17353b89e645071ddaf", func := "tidewheel/tidetop.TopNeeds", spec := "topNeeds", unfollowed := true, recurses := true, apart := false, narrowed := true }
def TopNeedsUptoSaid : Prop := topNeedsUptoRow.holds Tryz.pinned (OpenSpec.upto topNeedsSpec)

/-- 'tidetop.TopOnce', WHERE WHAT IT READS IS OF BULK AT MOST 1048576: true; the input reads as it did. -/
def topOnceUptoRow : OpenClaim := { program := "ytlfaogkdghnmcaagreat", sum := "227ba3b49cdf82bd7788ead5b1935125c2e9bcdf0fd4a17353b89e645071ddaf", func := "tidewheel/tidetop.TopOnce", spec := "topOnce", unfollowed := true, recurses := true, apart := false, narrowed := true }
def TopOnceUptoSaid : Prop := topOnceUptoRow.holds Tryz.pinned (OpenSpec.upto topOnceSpec)

/-- 'tidetop.TopLate', WHERE WHAT IT READS IS OF BULK AT MOST 1048576: true; the input reads as it did. -/
def topLateUptoRow : OpenClaim := { program := "ytlfaogkdghnmcaagreat", sum := "227ba3b49cdf82bd7788ead5b1935125c2e9bcdf0fd4a17353b89e645071ddaf", func := "tidewheel/tidetop.TopLate", spec := "topLate", unfollowed := true, recurses := true, apart := false, narrowed := true }
def TopLateUptoSaid : Prop := topLateUptoRow.holds Tryz.pinned (OpenSpec.upto topLateSpec)

/-- 'tidekeep.WorldLoads', WHERE WHAT IT READS IS OF BULK AT MOST 1048576: true; the input reads as it did. -/
def worldLoadsUptoRow : OpenClaim := { program := "ytlfaogkdghnmcaagreat", sum := "227ba3b49cdf82bd7788ead5b1935125c2e9bcdf0fd4a17353b89e645071ddaf", func := "tidewheel/tidekeep.WorldLoads", spec := "worldLoads", unfollowed := true, recurses := true, apart := false, narrowed := true }
def WorldLoadsUptoSaid : Prop := worldLoadsUptoRow.holds Tryz.pinned (OpenSpec.upto worldLoadsSpec)

/-- 'tidekeep.WorldTicks', WHERE WHAT IT READS IS OF BULK AT MOST 1048576: true; the input reads as it did. -/
def worldTicksUptoRow : OpenClaim := { program := "ytlfaogkdghnmcaagreat", sum := "227ba3b49cdf82bd7788ead5b1935125c2e9bcdf0fd4a17353b89e645071ddaf", func := "tidewheel/tidekeep.WorldTicks", spec := "worldTicks", unfollowed := true, recurses := true, apart := false, narrowed := true }
def WorldTicksUptoSaid : Prop := worldTicksUptoRow.holds Tryz.pinned (OpenSpec.upto worldTicksSpec)

/-- 'tidekeep.WorldOwn', WHERE WHAT IT READS IS OF BULK AT MOST 1048576: true; the input reads as it did. -/
def worldOwnUptoRow : OpenClaim := { program := "ytlfaogkdghnmcaagreat", sum := "227ba3b49cdf82bd7788ead5b1935125c2e9bcdf0fd4a17353b89e645071ddaf", func := "tidewheel/tidekeep.WorldOwn", spec := "worldOwn", unfollowed := true, recurses := true, apart := false, narrowed := true }
def WorldOwnUptoSaid : Prop := worldOwnUptoRow.holds Tryz.pinned (OpenSpec.upto worldOwnSpec)

/-- 'tidelaw.WorldPlays', WHERE WHAT IT READS IS OF BULK AT MOST 1048576: true; the input reads as it did. -/
def worldPlaysUptoRow : OpenClaim := { program := "ytlfaogkdghnmcaagreat", sum := "227ba3b49cdf82bd7788ead5b1935125c2e9bcdf0fd4a17353b89e645071ddaf", func := "tidewheel/tidelaw.WorldPlays", spec := "worldPlays", unfollowed := true, recurses := true, apart := false, narrowed := true }
def WorldPlaysUptoSaid : Prop := worldPlaysUptoRow.holds Tryz.pinned (OpenSpec.upto worldPlaysSpec)

/-- 'tidetop.TopBounds', WHERE WHAT IT READS IS OF BULK AT MOST 1048576: true; the input reads as it did. -/
def topBoundsUptoRow : OpenClaim := { program := "ytlfaogkdghnmcaagreat", sum := "227ba3b49cdf82bd7788ead5b1935125c2e9bcdf0fd4a17353b89e645071ddaf", func := "tidewheel/tidetop.TopBounds", spec := "topBounds", unfollowed := true, recurses := true, apart := false, narrowed := true }
def TopBoundsUptoSaid : Prop := topBoundsUptoRow.holds Tryz.pinned (OpenSpec.upto topBoundsSpec)

/-- 'tidetop.TopServed', WHERE WHAT IT READS IS OF BULK AT MOST 1048576: true; the input reads as it did. -/
def topServedUptoRow : OpenClaim := { program := "ytlfaogkdghnmcaagreat", sum := "227ba3b49cdf82bd7788ead5b1935125c2e9bcdf0fd4a17353b89e645071ddaf", func := "tidewheel/tidetop.TopServed", spec := "topServed", unfollowed := true, recurses := true, apart := false, narrowed := true }
def TopServedUptoSaid : Prop := topServedUptoRow.holds Tryz.pinned (OpenSpec.upto topServedSpec)

/-- 'tidetop.TopZero', WHERE WHAT IT READS IS OF BULK AT MOST 1048576: true; the input reads as it did. -/
def topZeroUptoRow : OpenClaim := { program := "ytlfaogkdghnmcaagreat", sum := "227ba3b49cdf82bd7788ead5b1935125c2e9bcdf0fd4a17353b89e645071ddaf", func := "tidewheel/tidetop.TopZero", spec := "topZero", unfollowed := true, recurses := true, apart := false, narrowed := true }
def TopZeroUptoSaid : Prop := topZeroUptoRow.holds Tryz.pinned (OpenSpec.upto topZeroSpec)

end Rows
end Go.Proofs.YtlfaogkdghnmcaaGreat
