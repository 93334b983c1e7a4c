/-
  No cell of these rows narrows 'for every input' (looked for: loops, veiled, ifaces, maps, wideKeys, modest, calm, conditions, laid).
  DERIVED. THE GIVEN ROWS OF THIS SEAT. 9 by the template 'for every input the law returns true; each argument reads behind the call as it read before'; 0 by the template 'total and deterministic' (their statements: YtgkbdoecpbepbaaTotals.lean).
  GIVEN WITH THE SEED: the statements are not yours to turn. If you find one false, say at which input.
  Laid BY PROGRAM, IN A SANDBOX (cutbox-rows.mjs): the forced cells as the released guide's own fill.sh prints them over the translation eb9d6a2dc4318506… (all of the seat's roots in one cut). By AI agents, Wed Nov 11 2026. No macro, syntax, notation, axiom, sorry.
-/
import Derived.Test.YtgkbdoecpbepbaaChecked
import GoSem.Claim
import GoSem.ClaimJoined
import GoSem.ClaimMapViews
import Derived.JoinedTies
import Derived.KernelRfl
namespace Go.Proofs.Ytgkbdoecpbepbaa
/- THE CELL 'sum', in the pinned program and in every row, IS THE sha256 OF THE DUMP (.gsa) THAT YtgkbdoecpbepbaaProg.lean LOADS. Nothing in Lean hashes anything: it is a label: what it is worth is what the hold of that sum in a sandbox is worth. -/
noncomputable def Try.pinned : Pinned := { name := "ytgkbdoecpbepbaa", sum := "eb9d6a2dc4318506412fffe540bed9304149ea8c0ff35dbc4d9e3baf5e20b3de", checked := Try.checked }
namespace Rows
def none {H : Type} : Left H := { results := [], args := [] }

/-- 'tidelaw.TopicPlays': WHATEVER THE INPUT: true; the input reads as it did. -/
def topicPlaysSpec : ChangeSpec := { name := "topicPlays", fn := fun _ => fun
  | [d1, d2] => { results := [.lit (.bool true)], args := [d1, d2] }
  | _ => none }
def topicPlaysRow : OpenClaim := { program := "ytgkbdoecpbepbaa", sum := "eb9d6a2dc4318506412fffe540bed9304149ea8c0ff35dbc4d9e3baf5e20b3de", func := "tidewheel/tidelaw.TopicPlays", spec := "topicPlays", apart := false }
def TopicPlaysSaid : Prop := topicPlaysRow.holds Try.pinned (OpenSpec.ofChange topicPlaysSpec)

/-- ITS FALSE NEIGHBOUR: 'it returns false'. Refute it at one input. -/
def topicPlaysWrong : ChangeSpec := { name := "topicPlays", fn := fun _ => fun
  | [d1, d2] => { results := [.lit (.bool false)], args := [d1, d2] }
  | _ => none }
def TopicPlaysWrongFalsely : Prop := topicPlaysRow.holds Try.pinned (OpenSpec.ofChange topicPlaysWrong)

/-- 'tidekeep.TopicSums': WHATEVER THE INPUT: true; the input reads as it did. -/
def topicSumsSpec : ChangeSpec := { name := "topicSums", fn := fun _ => fun
  | [d1, d2] => { results := [.lit (.bool true)], args := [d1, d2] }
  | _ => none }
def topicSumsRow : OpenClaim := { program := "ytgkbdoecpbepbaa", sum := "eb9d6a2dc4318506412fffe540bed9304149ea8c0ff35dbc4d9e3baf5e20b3de", func := "tidewheel/tidekeep.TopicSums", spec := "topicSums", apart := false }
def TopicSumsSaid : Prop := topicSumsRow.holds Try.pinned (OpenSpec.ofChange topicSumsSpec)

/-- ITS FALSE NEIGHBOUR: 'it returns false'. Refute it at one input. -/
def topicSumsWrong : ChangeSpec := { name := "topicSums", fn := fun _ => fun
  | [d1, d2] => { results := [.lit (.bool false)], args := [d1, d2] }
  | _ => none }
def TopicSumsWrongFalsely : Prop := topicSumsRow.holds Try.pinned (OpenSpec.ofChange topicSumsWrong)

/-- 'tidekeep.QueueOnce': WHATEVER THE INPUT: true; the input reads as it did. -/
def queueOnceSpec : ChangeSpec := { name := "queueOnce", fn := fun _ => fun
  | [d1, d2] => { results := [.lit (.bool true)], args := [d1, d2] }
  | _ => none }
def queueOnceRow : OpenClaim := { program := "ytgkbdoecpbepbaa", sum := "eb9d6a2dc4318506412fffe540bed9304149ea8c0ff35dbc4d9e3baf5e20b3de", func := "tidewheel/tidekeep.QueueOnce", spec := "queueOnce", unfollowed := true, recurses := true, apart := false }
def QueueOnceSaid : Prop := queueOnceRow.holds Try.pinned (OpenSpec.ofChange queueOnceSpec)

/-- ITS FALSE NEIGHBOUR: 'it returns false'. Refute it at one input. -/
def queueOnceWrong : ChangeSpec := { name := "queueOnce", fn := fun _ => fun
  | [d1, d2] => { results := [.lit (.bool false)], args := [d1, d2] }
  | _ => none }
def QueueOnceWrongFalsely : Prop := queueOnceRow.holds Try.pinned (OpenSpec.ofChange queueOnceWrong)

/-- 'tidelaw.StablePlays': WHATEVER THE INPUT: true; the input reads as it did. -/
def stablePlaysSpec : ChangeSpec := { name := "stablePlays", fn := fun _ => fun
  | [d1, d2, d3] => { results := [.lit (.bool true)], args := [d1, d2, d3] }
  | _ => none }
def stablePlaysRow : OpenClaim := { program := "ytgkbdoecpbepbaa", sum := "eb9d6a2dc4318506412fffe540bed9304149ea8c0ff35dbc4d9e3baf5e20b3de", func := "tidewheel/tidelaw.StablePlays", spec := "stablePlays", unfollowed := true, recurses := true, apart := false }
def StablePlaysSaid : Prop := stablePlaysRow.holds Try.pinned (OpenSpec.ofChange stablePlaysSpec)

/-- ITS FALSE NEIGHBOUR: 'it returns false'. Refute it at one input. -/
def stablePlaysWrong : ChangeSpec := { name := "stablePlays", fn := fun _ => fun
  | [d1, d2, d3] => { results := [.lit (.bool false)], args := [d1, d2, d3] }
  | _ => none }
def StablePlaysWrongFalsely : Prop := stablePlaysRow.holds Try.pinned (OpenSpec.ofChange stablePlaysWrong)

/-- 'tidekeep.StableBetween': WHATEVER THE INPUT: true; the input reads as it did. -/
def stableBetweenSpec : ChangeSpec := { name := "stableBetween", fn := fun _ => fun
  | [d1, d2, d3] => { results := [.lit (.bool true)], args := [d1, d2, d3] }
  | _ => none }
def stableBetweenRow : OpenClaim := { program := "ytgkbdoecpbepbaa", sum := "eb9d6a2dc4318506412fffe540bed9304149ea8c0ff35dbc4d9e3baf5e20b3de", func := "tidewheel/tidekeep.StableBetween", spec := "stableBetween", unfollowed := true, recurses := true, apart := false }
def StableBetweenSaid : Prop := stableBetweenRow.holds Try.pinned (OpenSpec.ofChange stableBetweenSpec)

/-- ITS FALSE NEIGHBOUR: 'it returns false'. Refute it at one input. -/
def stableBetweenWrong : ChangeSpec := { name := "stableBetween", fn := fun _ => fun
  | [d1, d2, d3] => { results := [.lit (.bool false)], args := [d1, d2, d3] }
  | _ => none }
def StableBetweenWrongFalsely : Prop := stableBetweenRow.holds Try.pinned (OpenSpec.ofChange stableBetweenWrong)

/-- 'tidekeep.StableFree': WHATEVER THE INPUT: true; the input reads as it did. -/
def stableFreeSpec : ChangeSpec := { name := "stableFree", fn := fun _ => fun
  | [d] => { results := [.lit (.bool true)], args := [d] }
  | _ => none }
def stableFreeRow : OpenClaim := { program := "ytgkbdoecpbepbaa", sum := "eb9d6a2dc4318506412fffe540bed9304149ea8c0ff35dbc4d9e3baf5e20b3de", func := "tidewheel/tidekeep.StableFree", spec := "stableFree", unfollowed := true, recurses := true, apart := false }
def StableFreeSaid : Prop := stableFreeRow.holds Try.pinned (OpenSpec.ofChange stableFreeSpec)

/-- ITS FALSE NEIGHBOUR: 'it returns false'. Refute it at one input. -/
def stableFreeWrong : ChangeSpec := { name := "stableFree", fn := fun _ => fun
  | [d] => { results := [.lit (.bool false)], args := [d] }
  | _ => none }
def StableFreeWrongFalsely : Prop := stableFreeRow.holds Try.pinned (OpenSpec.ofChange stableFreeWrong)

/-- 'tidekeep.StableWindow': WHATEVER THE INPUT: true; the input reads as it did. -/
def stableWindowSpec : ChangeSpec := { name := "stableWindow", fn := fun _ => fun
  | [d1, d2] => { results := [.lit (.bool true)], args := [d1, d2] }
  | _ => none }
def stableWindowRow : OpenClaim := { program := "ytgkbdoecpbepbaa", sum := "eb9d6a2dc4318506412fffe540bed9304149ea8c0ff35dbc4d9e3baf5e20b3de", func := "tidewheel/tidekeep.StableWindow", spec := "stableWindow", unfollowed := true, recurses := true, apart := false }
def StableWindowSaid : Prop := stableWindowRow.holds Try.pinned (OpenSpec.ofChange stableWindowSpec)

/-- ITS FALSE NEIGHBOUR: 'it returns false'. Refute it at one input. -/
def stableWindowWrong : ChangeSpec := { name := "stableWindow", fn := fun _ => fun
  | [d1, d2] => { results := [.lit (.bool false)], args := [d1, d2] }
  | _ => none }
def StableWindowWrongFalsely : Prop := stableWindowRow.holds Try.pinned (OpenSpec.ofChange stableWindowWrong)

/-- 'tidekeep.StablePace': WHATEVER THE INPUT: true; the input reads as it did. -/
def stablePaceSpec : ChangeSpec := { name := "stablePace", fn := fun _ => fun
  | [d1, d2, d3, d4] => { results := [.lit (.bool true)], args := [d1, d2, d3, d4] }
  | _ => none }
def stablePaceRow : OpenClaim := { program := "ytgkbdoecpbepbaa", sum := "eb9d6a2dc4318506412fffe540bed9304149ea8c0ff35dbc4d9e3baf5e20b3de", func := "tidewheel/tidekeep.StablePace", spec := "stablePace", unfollowed := true, recurses := true, apart := false }
def StablePaceSaid : Prop := stablePaceRow.holds Try.pinned (OpenSpec.ofChange stablePaceSpec)

/-- ITS FALSE NEIGHBOUR: 'it returns false'. Refute it at one input. -/
def stablePaceWrong : ChangeSpec := { name := "stablePace", fn := fun _ => fun
  | [d1, d2, d3, d4] => { results := [.lit (.bool false)], args := [d1, d2, d3, d4] }
  | _ => none }
def StablePaceWrongFalsely : Prop := stablePaceRow.holds Try.pinned (OpenSpec.ofChange stablePaceWrong)

/-- 'tidelaw.QueuePlays': WHATEVER THE INPUT: true; the input reads as it did. -/
def queuePlaysSpec : ChangeSpec := { name := "queuePlays", fn := fun _ => fun
  | [d] => { results := [.lit (.bool true)], args := [d] }
  | _ => none }
def queuePlaysRow : OpenClaim := { program := "ytgkbdoecpbepbaa", sum := "eb9d6a2dc4318506412fffe540bed9304149ea8c0ff35dbc4d9e3baf5e20b3de", func := "tidewheel/tidelaw.QueuePlays", spec := "queuePlays", unfollowed := true, recurses := true, apart := false }
def QueuePlaysSaid : Prop := queuePlaysRow.holds Try.pinned (OpenSpec.ofChange queuePlaysSpec)

/-- ITS FALSE NEIGHBOUR: 'it returns false'. Refute it at one input. -/
def queuePlaysWrong : ChangeSpec := { name := "queuePlays", fn := fun _ => fun
  | [d] => { results := [.lit (.bool false)], args := [d] }
  | _ => none }
def QueuePlaysWrongFalsely : Prop := queuePlaysRow.holds Try.pinned (OpenSpec.ofChange queuePlaysWrong)

/- THE SECOND FORM. 'bulk': how many values and letters a reading holds, each counted each time it is reached (what is shared counts as often as it is met; a slice's spare places count too). A statement '..UptoSaid' is the law's where the arguments, and the package variables that the reading takes, are together of bulk at most 1048576: NARROWER than '..Said'. Prove '..Said' where nothing that the law and all that it calls make is longer than what came in: it says more and counts as full. Else prove '..UptoSaid'. A law counts once. -/
mutual
def uptoBulk {H : Type} : DataW H → Nat
  | .lit (.string bytes) => bytes.length + 1
  | .lit _ => 1
  | .nil => 1
  | .ptr d => uptoBulk d + 1
  | .slice elems spare => uptoBulkAll elems + uptoBulkAll spare + 1
  | .agg parts => uptoBulkAll parts + 1
  | .iface _ d => uptoBulk d + 1
  | .map entries => uptoBulkEntries entries + 1
  | .held _ => 1
def uptoBulkAll {H : Type} : List (DataW H) → Nat
  | [] => 0
  | d :: r => uptoBulk d + uptoBulkAll r
def uptoBulkEntries {H : Type} : List (Lit × DataW H) → Nat
  | [] => 0
  | x :: r => uptoBulkEntry x + uptoBulkEntries r
def uptoBulkEntry {H : Type} : Lit × DataW H → Nat
  | (.string bytes, d) => bytes.length + uptoBulk d + 1
  | (_, d) => uptoBulk d + 1
 end
def uptoSmall : (H : Type) → List (DataW H) → Bool := fun _ ds => decide (uptoBulkAll ds ≤ 1048576)
def OpenSpec.upto (s : _root_.Go.ChangeSpec) : _root_.Go.OpenSpec := { _root_.Go.OpenSpec.ofChange s with cond := some uptoSmall }

/-- 'tidelaw.TopicPlays', WHERE WHAT IT READS IS OF BULK AT MOST 1048576: true; the input reads as it did. -/
def topicPlaysUptoRow : OpenClaim := { program := "ytgkbdoecpbepbaa", sum := "eb9d6a2dc4318506412fffe540bed9304149ea8c0ff35dbc4d9e3baf5e20b3de", func := "tidewheel/tidelaw.TopicPlays", spec := "topicPlays", apart := false, narrowed := true }
def TopicPlaysUptoSaid : Prop := topicPlaysUptoRow.holds Try.pinned (OpenSpec.upto topicPlaysSpec)

/-- 'tidekeep.TopicSums', WHERE WHAT IT READS IS OF BULK AT MOST 1048576: true; the input reads as it did. -/
def topicSumsUptoRow : OpenClaim := { program := "ytgkbdoecpbepbaa", sum := "eb9d6a2dc4318506412fffe540bed9304149ea8c0ff35dbc4d9e3baf5e20b3de", func := "tidewheel/tidekeep.TopicSums", spec := "topicSums", apart := false, narrowed := true }
def TopicSumsUptoSaid : Prop := topicSumsUptoRow.holds Try.pinned (OpenSpec.upto topicSumsSpec)

/-- 'tidekeep.QueueOnce', WHERE WHAT IT READS IS OF BULK AT MOST 1048576: true; the input reads as it did. -/
def queueOnceUptoRow : OpenClaim := { program := "ytgkbdoecpbepbaa", sum := "eb9d6a2dc4318506412fffe540bed9304149ea8c0ff35dbc4d9e3baf5e20b3de", func := "tidewheel/tidekeep.QueueOnce", spec := "queueOnce", unfollowed := true, recurses := true, apart := false, narrowed := true }
def QueueOnceUptoSaid : Prop := queueOnceUptoRow.holds Try.pinned (OpenSpec.upto queueOnceSpec)

/-- 'tidelaw.StablePlays', WHERE WHAT IT READS IS OF BULK AT MOST 1048576: true; the input reads as it did. -/
def stablePlaysUptoRow : OpenClaim := { program := "ytgkbdoecpbepbaa", sum := "eb9d6a2dc4318506412fffe540bed9304149ea8c0ff35dbc4d9e3baf5e20b3de", func := "tidewheel/tidelaw.StablePlays", spec := "stablePlays", unfollowed := true, recurses := true, apart := false, narrowed := true }
def StablePlaysUptoSaid : Prop := stablePlaysUptoRow.holds Try.pinned (OpenSpec.upto stablePlaysSpec)

/-- 'tidekeep.StableBetween', WHERE WHAT IT READS IS OF BULK AT MOST 1048576: true; the input reads as it did. -/
def stableBetweenUptoRow : OpenClaim := { program := "ytgkbdoecpbepbaa", sum := "eb9d6a2dc4318506412fffe540bed9304149ea8c0ff35dbc4d9e3baf5e20b3de", func := "tidewheel/tidekeep.StableBetween", spec := "stableBetween", unfollowed := true, recurses := true, apart := false, narrowed := true }
def StableBetweenUptoSaid : Prop := stableBetweenUptoRow.holds Try.pinned (OpenSpec.upto stableBetweenSpec)

/-- 'tidekeep.StableFree', WHERE WHAT IT READS IS OF BULK AT MOST 1048576: true; the input reads as it did. -/
def stableFreeUptoRow : OpenClaim := { program := "ytgkbdoecpbepbaa", sum := "eb9d6a2dc4318506412fffe540bed9304149ea8c0ff35dbc4d9e3baf5e20b3de", func := "tidewheel/tidekeep.StableFree", spec := "stableFree", unfollowed := true, recurses := true, apart := false, narrowed := true }
def StableFreeUptoSaid : Prop := stableFreeUptoRow.holds Try.pinned (OpenSpec.upto stableFreeSpec)

/-- 'tidekeep.StableWindow', WHERE WHAT IT READS IS OF BULK AT MOST 1048576: true; the input reads as it did. -/
def stableWindowUptoRow : OpenClaim := { program := "ytgkbdoecpbepbaa", sum := "eb9d6a2dc4318506412fffe540bed9304149ea8c0ff35dbc4d9e3baf5e20b3de", func := "tidewheel/tidekeep.StableWindow", spec := "stableWindow", unfollowed := true, recurses := true, apart := false, narrowed := true }
def StableWindowUptoSaid : Prop := stableWindowUptoRow.holds Try.pinned (OpenSpec.upto stableWindowSpec)

/-- 'tidekeep.StablePace', WHERE WHAT IT READS IS OF BULK AT MOST 1048576: true; the input reads as it did. -/
def stablePaceUptoRow : OpenClaim := { program := "ytgkbdoecpbepbaa", sum := "eb9d6a2dc4318506412fffe540bed9304149ea8c0ff35dbc4d9e3baf5e20b3de", func := "tidewheel/tidekeep.StablePace", spec := "stablePace", unfollowed := true, recurses := true, apart := false, narrowed := true }
def StablePaceUptoSaid : Prop := stablePaceUptoRow.holds Try.pinned (OpenSpec.upto stablePaceSpec)

/-- 'tidelaw.QueuePlays', WHERE WHAT IT READS IS OF BULK AT MOST 1048576: true; the input reads as it did. -/
def queuePlaysUptoRow : OpenClaim := { program := "ytgkbdoecpbepbaa", sum := "eb9d6a2dc4318506412fffe540bed9304149ea8c0ff35dbc4d9e3baf5e20b3de", func := "tidewheel/tidelaw.QueuePlays", spec := "queuePlays", unfollowed := true, recurses := true, apart := false, narrowed := true }
def QueuePlaysUptoSaid : Prop := queuePlaysUptoRow.holds Try.pinned (OpenSpec.upto queuePlaysSpec)

end Rows
end Go.Proofs.Ytgkbdoecpbepbaa
