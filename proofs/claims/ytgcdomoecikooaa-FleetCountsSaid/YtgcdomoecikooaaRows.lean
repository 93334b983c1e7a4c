/-
  No cell of these rows narrows 'for every input' (looked for: loops, veiled, ifaces, maps, wideKeys, modest, calm, conditions, laid).
  DERIVED. THE GIVEN ROWS OF THIS SEAT. 6 by the template 'for every input the law returns true; each argument reads behind the call as it read before'; 0 by the template 'total and deterministic' (their statements: YtgcdomoecikooaaTotals.lean).
  GIVEN WITH THE SEED: the statements are not yours to turn. If you find one false, say at which input.
  Laid BY PROGRAM, IN A SANDBOX (cutbox-rows.mjs): the forced cells as the released guide's own fill.sh prints them over the translation 7732d3cdf3229f8b… (all of the seat's roots in one cut). By AI agents, Wed Nov 11 2026. No macro, syntax, notation, axiom, sorry.
-/
import Derived.Test.YtgcdomoecikooaaChecked
import GoSem.Claim
import GoSem.ClaimJoined
import GoSem.ClaimMapViews
import Derived.JoinedTies
import Derived.KernelRfl
namespace Go.Proofs.Ytgcdomoecikooaa
/- THE CELL 'sum', in the pinned program and in every row, IS THE sha256 OF THE DUMP (.gsa) THAT YtgcdomoecikooaaProg.lean LOADS. Nothing in Lean hashes anything: it is a label: what it is worth is what the hold of that sum in a sandbox is worth. -/
noncomputable def Try.pinned : Pinned := { name := "ytgcdomoecikooaa", sum := "7732d3cdf3229f8b46bf6fa412453ce761bd9bf37646bf9cadb9757a944bc978", checked := Try.checked }
namespace Rows
def none {H : Type} : Left H := { results := [], args := [] }

/-- 'tidekeep.BufferFates': WHATEVER THE INPUT: true; the input reads as it did. -/
def bufferFatesSpec : ChangeSpec := { name := "bufferFates", fn := fun _ => fun
  | [d] => { results := [.lit (.bool true)], args := [d] }
  | _ => none }
def bufferFatesRow : OpenClaim := { program := "ytgcdomoecikooaa", sum := "7732d3cdf3229f8b46bf6fa412453ce761bd9bf37646bf9cadb9757a944bc978", func := "tidewheel/tidekeep.BufferFates", spec := "bufferFates", unfollowed := true, recurses := true, apart := false }
def BufferFatesSaid : Prop := bufferFatesRow.holds Try.pinned (OpenSpec.ofChange bufferFatesSpec)

/-- ITS FALSE NEIGHBOUR: 'it returns false'. Refute it at one input. -/
def bufferFatesWrong : ChangeSpec := { name := "bufferFates", fn := fun _ => fun
  | [d] => { results := [.lit (.bool false)], args := [d] }
  | _ => none }
def BufferFatesWrongFalsely : Prop := bufferFatesRow.holds Try.pinned (OpenSpec.ofChange bufferFatesWrong)

/-- 'tidekeep.BufferLate': WHATEVER THE INPUT: true; the input reads as it did. -/
def bufferLateSpec : ChangeSpec := { name := "bufferLate", fn := fun _ => fun
  | [d1, d2] => { results := [.lit (.bool true)], args := [d1, d2] }
  | _ => none }
def bufferLateRow : OpenClaim := { program := "ytgcdomoecikooaa", sum := "7732d3cdf3229f8b46bf6fa412453ce761bd9bf37646bf9cadb9757a944bc978", func := "tidewheel/tidekeep.BufferLate", spec := "bufferLate", unfollowed := true, recurses := true, apart := false }
def BufferLateSaid : Prop := bufferLateRow.holds Try.pinned (OpenSpec.ofChange bufferLateSpec)

/-- ITS FALSE NEIGHBOUR: 'it returns false'. Refute it at one input. -/
def bufferLateWrong : ChangeSpec := { name := "bufferLate", fn := fun _ => fun
  | [d1, d2] => { results := [.lit (.bool false)], args := [d1, d2] }
  | _ => none }
def BufferLateWrongFalsely : Prop := bufferLateRow.holds Try.pinned (OpenSpec.ofChange bufferLateWrong)

/-- 'tidelaw.BufferPlays': WHATEVER THE INPUT: true; the input reads as it did. -/
def bufferPlaysSpec : ChangeSpec := { name := "bufferPlays", fn := fun _ => fun
  | [d] => { results := [.lit (.bool true)], args := [d] }
  | _ => none }
def bufferPlaysRow : OpenClaim := { program := "ytgcdomoecikooaa", sum := "7732d3cdf3229f8b46bf6fa412453ce761bd9bf37646bf9cadb9757a944bc978", func := "tidewheel/tidelaw.BufferPlays", spec := "bufferPlays", unfollowed := true, recurses := true, apart := false }
def BufferPlaysSaid : Prop := bufferPlaysRow.holds Try.pinned (OpenSpec.ofChange bufferPlaysSpec)

/-- ITS FALSE NEIGHBOUR: 'it returns false'. Refute it at one input. -/
def bufferPlaysWrong : ChangeSpec := { name := "bufferPlays", fn := fun _ => fun
  | [d] => { results := [.lit (.bool false)], args := [d] }
  | _ => none }
def BufferPlaysWrongFalsely : Prop := bufferPlaysRow.holds Try.pinned (OpenSpec.ofChange bufferPlaysWrong)

/-- 'tidekeep.FleetCounts': WHATEVER THE INPUT: true; the input reads as it did. -/
def fleetCountsSpec : ChangeSpec := { name := "fleetCounts", fn := fun _ => fun
  | [d1, d2] => { results := [.lit (.bool true)], args := [d1, d2] }
  | _ => none }
def fleetCountsRow : OpenClaim := { program := "ytgcdomoecikooaa", sum := "7732d3cdf3229f8b46bf6fa412453ce761bd9bf37646bf9cadb9757a944bc978", func := "tidewheel/tidekeep.FleetCounts", spec := "fleetCounts", unfollowed := true, recurses := true, apart := false }
def FleetCountsSaid : Prop := fleetCountsRow.holds Try.pinned (OpenSpec.ofChange fleetCountsSpec)

/-- ITS FALSE NEIGHBOUR: 'it returns false'. Refute it at one input. -/
def fleetCountsWrong : ChangeSpec := { name := "fleetCounts", fn := fun _ => fun
  | [d1, d2] => { results := [.lit (.bool false)], args := [d1, d2] }
  | _ => none }
def FleetCountsWrongFalsely : Prop := fleetCountsRow.holds Try.pinned (OpenSpec.ofChange fleetCountsWrong)

/-- 'tidekeep.FleetEven': WHATEVER THE INPUT: true; the input reads as it did. -/
def fleetEvenSpec : ChangeSpec := { name := "fleetEven", fn := fun _ => fun
  | [d1, d2] => { results := [.lit (.bool true)], args := [d1, d2] }
  | _ => none }
def fleetEvenRow : OpenClaim := { program := "ytgcdomoecikooaa", sum := "7732d3cdf3229f8b46bf6fa412453ce761bd9bf37646bf9cadb9757a944bc978", func := "tidewheel/tidekeep.FleetEven", spec := "fleetEven", unfollowed := true, recurses := true, apart := false }
def FleetEvenSaid : Prop := fleetEvenRow.holds Try.pinned (OpenSpec.ofChange fleetEvenSpec)

/-- ITS FALSE NEIGHBOUR: 'it returns false'. Refute it at one input. -/
def fleetEvenWrong : ChangeSpec := { name := "fleetEven", fn := fun _ => fun
  | [d1, d2] => { results := [.lit (.bool false)], args := [d1, d2] }
  | _ => none }
def FleetEvenWrongFalsely : Prop := fleetEvenRow.holds Try.pinned (OpenSpec.ofChange fleetEvenWrong)

/-- 'tidelaw.FleetPlays': WHATEVER THE INPUT: true; the input reads as it did. -/
def fleetPlaysSpec : ChangeSpec := { name := "fleetPlays", fn := fun _ => fun
  | [d1, d2] => { results := [.lit (.bool true)], args := [d1, d2] }
  | _ => none }
def fleetPlaysRow : OpenClaim := { program := "ytgcdomoecikooaa", sum := "7732d3cdf3229f8b46bf6fa412453ce761bd9bf37646bf9cadb9757a944bc978", func := "tidewheel/tidelaw.FleetPlays", spec := "fleetPlays", unfollowed := true, recurses := true, apart := false }
def FleetPlaysSaid : Prop := fleetPlaysRow.holds Try.pinned (OpenSpec.ofChange fleetPlaysSpec)

/-- ITS FALSE NEIGHBOUR: 'it returns false'. Refute it at one input. -/
def fleetPlaysWrong : ChangeSpec := { name := "fleetPlays", fn := fun _ => fun
  | [d1, d2] => { results := [.lit (.bool false)], args := [d1, d2] }
  | _ => none }
def FleetPlaysWrongFalsely : Prop := fleetPlaysRow.holds Try.pinned (OpenSpec.ofChange fleetPlaysWrong)

/- THE SECOND FORM. 'bulk': how many values and letters a reading holds, each counted each time it is reached (what is shared counts as often as it is met; a slice's spare places count too). A statement '..UptoSaid' is the law's where the arguments, and the package variables that the reading takes, are together of bulk at most 1048576: NARROWER than '..Said'. Prove '..Said' where nothing that the law and all that it calls make is longer than what came in: it says more and counts as full. Else prove '..UptoSaid'. A law counts once. -/
mutual
def uptoBulk {H : Type} : DataW H → Nat
  | .lit (.string bytes) => bytes.length + 1
  | .lit _ => 1
  | .nil => 1
  | .ptr d => uptoBulk d + 1
  | .slice elems spare => uptoBulkAll elems + uptoBulkAll spare + 1
  | .agg parts => uptoBulkAll parts + 1
  | .iface _ d => uptoBulk d + 1
  | .map entries => uptoBulkEntries entries + 1
  | .held _ => 1
def uptoBulkAll {H : Type} : List (DataW H) → Nat
  | [] => 0
  | d :: r => uptoBulk d + uptoBulkAll r
def uptoBulkEntries {H : Type} : List (Lit × DataW H) → Nat
  | [] => 0
  | x :: r => uptoBulkEntry x + uptoBulkEntries r
def uptoBulkEntry {H : Type} : Lit × DataW H → Nat
  | (.string bytes, d) => bytes.length + uptoBulk d + 1
  | (_, d) => uptoBulk d + 1
 end
def uptoSmall : (H : Type) → List (DataW H) → Bool := fun _ ds => decide (uptoBulkAll ds ≤ 1048576)
def OpenSpec.upto (s : _root_.Go.ChangeSpec) : _root_.Go.OpenSpec := { _root_.Go.OpenSpec.ofChange s with cond := some uptoSmall }

/-- 'tidekeep.BufferFates', WHERE WHAT IT READS IS OF BULK AT MOST 1048576: true; the input reads as it did. -/
def bufferFatesUptoRow : OpenClaim := { program := "ytgcdomoecikooaa", sum := "7732d3cdf3229f8b46bf6fa412453ce761bd9bf37646bf9cadb9757a944bc978", func := "tidewheel/tidekeep.BufferFates", spec := "bufferFates", unfollowed := true, recurses := true, apart := false, narrowed := true }
def BufferFatesUptoSaid : Prop := bufferFatesUptoRow.holds Try.pinned (OpenSpec.upto bufferFatesSpec)

/-- 'tidekeep.BufferLate', WHERE WHAT IT READS IS OF BULK AT MOST 1048576: true; the input reads as it did. -/
def bufferLateUptoRow : OpenClaim := { program := "ytgcdomoecikooaa", sum := "7732d3cdf3229f8b46bf6fa412453ce761bd9bf37646bf9cadb9757a944bc978", func := "tidewheel/tidekeep.BufferLate", spec := "bufferLate", unfollowed := true, recurses := true, apart := false, narrowed := true }
def BufferLateUptoSaid : Prop := bufferLateUptoRow.holds Try.pinned (OpenSpec.upto bufferLateSpec)

/-- 'tidelaw.BufferPlays', WHERE WHAT IT READS IS OF BULK AT MOST 1048576: true; the input reads as it did. -/
def bufferPlaysUptoRow : OpenClaim := { program := "ytgcdomoecikooaa", sum := "7732d3cdf3229f8b46bf6fa412453ce761bd9bf37646bf9cadb9757a944bc978", func := "tidewheel/tidelaw.BufferPlays", spec := "bufferPlays", unfollowed := true, recurses := true, apart := false, narrowed := true }
def BufferPlaysUptoSaid : Prop := bufferPlaysUptoRow.holds Try.pinned (OpenSpec.upto bufferPlaysSpec)

/-- 'tidekeep.FleetCounts', WHERE WHAT IT READS IS OF BULK AT MOST 1048576: true; the input reads as it did. -/
def fleetCountsUptoRow : OpenClaim := { program := "ytgcdomoecikooaa", sum := "7732d3cdf3229f8b46bf6fa412453ce761bd9bf37646bf9cadb9757a944bc978", func := "tidewheel/tidekeep.FleetCounts", spec := "fleetCounts", unfollowed := true, recurses := true, apart := false, narrowed := true }
def FleetCountsUptoSaid : Prop := fleetCountsUptoRow.holds Try.pinned (OpenSpec.upto fleetCountsSpec)

/-- 'tidekeep.FleetEven', WHERE WHAT IT READS IS OF BULK AT MOST 1048576: true; the input reads as it did. -/
def fleetEvenUptoRow : OpenClaim := { program := "ytgcdomoecikooaa", sum := "7732d3cdf3229f8b46bf6fa412453ce761bd9bf37646bf9cadb9757a944bc978", func := "tidewheel/tidekeep.FleetEven", spec := "fleetEven", unfollowed := true, recurses := true, apart := false, narrowed := true }
def FleetEvenUptoSaid : Prop := fleetEvenUptoRow.holds Try.pinned (OpenSpec.upto fleetEvenSpec)

/-- 'tidelaw.FleetPlays', WHERE WHAT IT READS IS OF BULK AT MOST 1048576: true; the input reads as it did. -/
def fleetPlaysUptoRow : OpenClaim := { program := "ytgcdomoecikooaa", sum := "7732d3cdf3229f8b46bf6fa412453ce761bd9bf37646bf9cadb9757a944bc978", func := "tidewheel/tidelaw.FleetPlays", spec := "fleetPlays", unfollowed := true, recurses := true, apart := false, narrowed := true }
def FleetPlaysUptoSaid : Prop := fleetPlaysUptoRow.holds Try.pinned (OpenSpec.upto fleetPlaysSpec)

end Rows
end Go.Proofs.Ytgcdomoecikooaa
