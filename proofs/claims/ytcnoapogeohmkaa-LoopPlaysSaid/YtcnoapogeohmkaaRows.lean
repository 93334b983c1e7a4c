/-
  No cell of these rows narrows 'for every input' (looked for: loops, veiled, ifaces, maps, wideKeys, modest, calm, conditions, laid).
  DERIVED. THE GIVEN ROWS OF THIS SEAT. 4 by the template 'for every input the law returns true; each argument reads behind the call as it read before'; 0 by the template 'total and deterministic' (their statements: YtcnoapogeohmkaaTotals.lean).
  GIVEN WITH THE SEED: the statements are not yours to turn. If you find one false, say at which input.
  Laid BY PROGRAM, IN A SANDBOX (cutbox-rows.mjs): the forced cells as the released guide's own fill.sh prints them over the translation d30b3a5c98b85146… (all of the seat's roots in one cut). By AI agents, Wed Nov 11 2026. No macro, syntax, notation, axiom, sorry.
-/
import Derived.Test.YtcnoapogeohmkaaChecked
import GoSem.Claim
import GoSem.ClaimJoined
import GoSem.ClaimMapViews
import Derived.JoinedTies
import Derived.KernelRfl
namespace Go.Proofs.Ytcnoapogeohmkaa
/- THE CELL 'sum', in the pinned program and in every row, IS THE sha256 OF THE DUMP (.gsa) THAT YtcnoapogeohmkaaProg.lean LOADS. Nothing in Lean hashes anything: it is a label: what it is worth is what the hold of that sum in a sandbox is worth. -/
noncomputable def Try.pinned : Pinned := { name := "ytcnoapogeohmkaa", sum := "d30b3a5c98b85146e3fdaa5631b98f3db9c54bac29a254df16a80d97b7b63d97", checked := Try.checked }
namespace Rows
def none {H : Type} : Left H := { results := [], args := [] }

/-- 'tidekeep.LoopCools': WHATEVER THE INPUT: true; the input reads as it did. -/
def loopCoolsSpec : ChangeSpec := { name := "loopCools", fn := fun _ => fun
  | [d1, d2, d3] => { results := [.lit (.bool true)], args := [d1, d2, d3] }
  | _ => none }
def loopCoolsRow : OpenClaim := { program := "ytcnoapogeohmkaa", sum := "d30b3a5c98b85146e3fdaa5631b98f3db9c54bac29a254df16a80d97b7b63d97", func := "tidewheel/tidekeep.LoopCools", spec := "loopCools", unfollowed := true, recurses := true, apart := false }
def LoopCoolsSaid : Prop := loopCoolsRow.holds Try.pinned (OpenSpec.ofChange loopCoolsSpec)

/-- ITS FALSE NEIGHBOUR: 'it returns false'. Refute it at one input. -/
def loopCoolsWrong : ChangeSpec := { name := "loopCools", fn := fun _ => fun
  | [d1, d2, d3] => { results := [.lit (.bool false)], args := [d1, d2, d3] }
  | _ => none }
def LoopCoolsWrongFalsely : Prop := loopCoolsRow.holds Try.pinned (OpenSpec.ofChange loopCoolsWrong)

/-- 'tidekeep.LoopFails': WHATEVER THE INPUT: true; the input reads as it did. -/
def loopFailsSpec : ChangeSpec := { name := "loopFails", fn := fun _ => fun
  | [d1, d2, d3, d4] => { results := [.lit (.bool true)], args := [d1, d2, d3, d4] }
  | _ => none }
def loopFailsRow : OpenClaim := { program := "ytcnoapogeohmkaa", sum := "d30b3a5c98b85146e3fdaa5631b98f3db9c54bac29a254df16a80d97b7b63d97", func := "tidewheel/tidekeep.LoopFails", spec := "loopFails", unfollowed := true, recurses := true, apart := false }
def LoopFailsSaid : Prop := loopFailsRow.holds Try.pinned (OpenSpec.ofChange loopFailsSpec)

/-- ITS FALSE NEIGHBOUR: 'it returns false'. Refute it at one input. -/
def loopFailsWrong : ChangeSpec := { name := "loopFails", fn := fun _ => fun
  | [d1, d2, d3, d4] => { results := [.lit (.bool false)], args := [d1, d2, d3, d4] }
  | _ => none }
def LoopFailsWrongFalsely : Prop := loopFailsRow.holds Try.pinned (OpenSpec.ofChange loopFailsWrong)

/-- 'tidelaw.LoopPlays': WHATEVER THE INPUT: true; the input reads as it did. -/
def loopPlaysSpec : ChangeSpec := { name := "loopPlays", fn := fun _ => fun
  | [d1, d2] => { results := [.lit (.bool true)], args := [d1, d2] }
  | _ => none }
def loopPlaysRow : OpenClaim := { program := "ytcnoapogeohmkaa", sum := "d30b3a5c98b85146e3fdaa5631b98f3db9c54bac29a254df16a80d97b7b63d97", func := "tidewheel/tidelaw.LoopPlays", spec := "loopPlays", unfollowed := true, recurses := true, apart := false }
def LoopPlaysSaid : Prop := loopPlaysRow.holds Try.pinned (OpenSpec.ofChange loopPlaysSpec)

/-- ITS FALSE NEIGHBOUR: 'it returns false'. Refute it at one input. -/
def loopPlaysWrong : ChangeSpec := { name := "loopPlays", fn := fun _ => fun
  | [d1, d2] => { results := [.lit (.bool false)], args := [d1, d2] }
  | _ => none }
def LoopPlaysWrongFalsely : Prop := loopPlaysRow.holds Try.pinned (OpenSpec.ofChange loopPlaysWrong)

/-- 'tidekeep.LoopBounds': WHATEVER THE INPUT: true; the input reads as it did. -/
def loopBoundsSpec : ChangeSpec := { name := "loopBounds", fn := fun _ => fun
  | [d1, d2] => { results := [.lit (.bool true)], args := [d1, d2] }
  | _ => none }
def loopBoundsRow : OpenClaim := { program := "ytcnoapogeohmkaa", sum := "d30b3a5c98b85146e3fdaa5631b98f3db9c54bac29a254df16a80d97b7b63d97", func := "tidewheel/tidekeep.LoopBounds", spec := "loopBounds", unfollowed := true, recurses := true, apart := false }
def LoopBoundsSaid : Prop := loopBoundsRow.holds Try.pinned (OpenSpec.ofChange loopBoundsSpec)

/-- ITS FALSE NEIGHBOUR: 'it returns false'. Refute it at one input. -/
def loopBoundsWrong : ChangeSpec := { name := "loopBounds", fn := fun _ => fun
  | [d1, d2] => { results := [.lit (.bool false)], args := [d1, d2] }
  | _ => none }
def LoopBoundsWrongFalsely : Prop := loopBoundsRow.holds Try.pinned (OpenSpec.ofChange loopBoundsWrong)

/- THE SECOND FORM. 'bulk': how many values and letters a reading holds, each counted each time it is reached (what is shared counts as often as it is met; a slice's spare places count too). A statement '..UptoSaid' is the law's where the arguments, and the package variables that the reading takes, are together of bulk at most 1048576: NARROWER than '..Said'. Prove '..Said' where nothing that the law and all that it calls make is longer than what came in: it says more and counts as full. Else prove '..UptoSaid'. A law counts once. -/
mutual
def uptoBulk {H : Type} : DataW H → Nat
  | .lit (.string bytes) => bytes.length + 1
  | .lit _ => 1
  | .nil => 1
  | .ptr d => uptoBulk d + 1
  | .slice elems spare => uptoBulkAll elems + uptoBulkAll spare + 1
  | .agg parts => uptoBulkAll parts + 1
  | .iface _ d => uptoBulk d + 1
  | .map entries => uptoBulkEntries entries + 1
  | .held _ => 1
def uptoBulkAll {H : Type} : List (DataW H) → Nat
  | [] => 0
  | d :: r => uptoBulk d + uptoBulkAll r
def uptoBulkEntries {H : Type} : List (Lit × DataW H) → Nat
  | [] => 0
  | x :: r => uptoBulkEntry x + uptoBulkEntries r
def uptoBulkEntry {H : Type} : Lit × DataW H → Nat
  | (.string bytes, d) => bytes.length + uptoBulk d + 1
  | (_, d) => uptoBulk d + 1
 end
def uptoSmall : (H : Type) → List (DataW H) → Bool := fun _ ds => decide (uptoBulkAll ds ≤ 1048576)
def OpenSpec.upto (s : _root_.Go.ChangeSpec) : _root_.Go.OpenSpec := { _root_.Go.OpenSpec.ofChange s with cond := some uptoSmall }

/-- 'tidekeep.LoopCools', WHERE WHAT IT READS IS OF BULK AT MOST 1048576: true; the input reads as it did. -/
def loopCoolsUptoRow : OpenClaim := { program := "ytcnoapogeohmkaa", sum := "d30b3a5c98b85146e3fdaa5631b98f3db9c54bac29a254df16a80d97b7b63d97", func := "tidewheel/tidekeep.LoopCools", spec := "loopCools", unfollowed := true, recurses := true, apart := false, narrowed := true }
def LoopCoolsUptoSaid : Prop := loopCoolsUptoRow.holds Try.pinned (OpenSpec.upto loopCoolsSpec)

/-- 'tidekeep.LoopFails', WHERE WHAT IT READS IS OF BULK AT MOST 1048576: true; the input reads as it did. -/
def loopFailsUptoRow : OpenClaim := { program := "ytcnoapogeohmkaa", sum := "d30b3a5c98b85146e3fdaa5631b98f3db9c54bac29a254df16a80d97b7b63d97", func := "tidewheel/tidekeep.LoopFails", spec := "loopFails", unfollowed := true, recurses := true, apart := false, narrowed := true }
def LoopFailsUptoSaid : Prop := loopFailsUptoRow.holds Try.pinned (OpenSpec.upto loopFailsSpec)

/-- 'tidelaw.LoopPlays', WHERE WHAT IT READS IS OF BULK AT MOST 1048576: true; the input reads as it did. -/
def loopPlaysUptoRow : OpenClaim := { program := "ytcnoapogeohmkaa", sum := "d30b3a5c98b85146e3fdaa5631b98f3db9c54bac29a254df16a80d97b7b63d97", func := "tidewheel/tidelaw.LoopPlays", spec := "loopPlays", unfollowed := true, recurses := true, apart := false, narrowed := true }
def LoopPlaysUptoSaid : Prop := loopPlaysUptoRow.holds Try.pinned (OpenSpec.upto loopPlaysSpec)

/-- 'tidekeep.LoopBounds', WHERE WHAT IT READS IS OF BULK AT MOST 1048576: true; the input reads as it did. -/
def loopBoundsUptoRow : OpenClaim := { program := "ytcnoapogeohmkaa", sum := "d30b3a5c98b85146e3fdaa5631b98f3db9c54bac29a254df16a80d97b7b63d97", func := "tidewheel/tidekeep.LoopBounds", spec := "loopBounds", unfollowed := true, recurses := true, apart := false, narrowed := true }
def LoopBoundsUptoSaid : Prop := loopBoundsUptoRow.holds Try.pinned (OpenSpec.upto loopBoundsSpec)

end Rows
end Go.Proofs.Ytcnoapogeohmkaa
