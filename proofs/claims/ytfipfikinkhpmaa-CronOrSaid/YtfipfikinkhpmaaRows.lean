/-
  No cell of these rows narrows 'for every input' (looked for: loops, veiled, ifaces, maps, wideKeys, modest, calm, conditions, laid).
  DERIVED. THE GIVEN ROWS OF THIS SEAT. 11 by the template 'for every input the law returns true; each argument reads behind the call as it read before'; 0 by the template 'total and deterministic' (their statements: YtfipfikinkhpmaaTotals.lean).
  GIVEN WITH THE SEED: the statements are not yours to turn. If you find one false, say at which input.
  Laid BY PROGRAM, IN A SANDBOX (cutbox-rows.mjs): the forced cells as the released guide's own fill.sh prints them over the translation 228d806b8a44ab97… (all of the seat's roots in one cut). By AI agents, Wed Nov 11 2026. No macro, syntax, notation, axiom, sorry.
-/
import Derived.Test.YtfipfikinkhpmaaChecked
import GoSem.Claim
import GoSem.ClaimJoined
import GoSem.ClaimMapViews
import Derived.JoinedTies
import Derived.KernelRfl
namespace Go.Proofs.Ytfipfikinkhpmaa
/- THE CELL 'sum', in the pinned program and in every row, IS THE sha256 OF THE DUMP (.gsa) THAT YtfipfikinkhpmaaProg.lean LOADS. Nothing in Lean hashes anything: it is a label: what it is worth is what the hold of that sum in a sandbox is worth. -/
noncomputable def Try.pinned : Pinned := { name := "ytfipfikinkhpmaa", sum := "228d806b8a44ab973c77d64b98a6f09f03613d55d78c4e3e48b89fab41963870", checked := Try.checked }
namespace Rows
def none {H : Type} : Left H := { results := [], args := [] }

/-- 'tidelaw.Names': WHATEVER THE INPUT: true; the input reads as it did. -/
def namesSpec : ChangeSpec := { name := "names", fn := fun _ => fun
  | [] => { results := [.lit (.bool true)], args := [] }
  | _ => none }
def namesRow : OpenClaim := { program := "ytfipfikinkhpmaa", sum := "228d806b8a44ab973c77d64b98a6f09f03613d55d78c4e3e48b89fab41963870", func := "tidewheel/tidelaw.Names", spec := "names", apart := false }
def NamesSaid : Prop := namesRow.holds Try.pinned (OpenSpec.ofChange namesSpec)

/-- ITS FALSE NEIGHBOUR: 'it returns false'. Refute it at one input. -/
def namesWrong : ChangeSpec := { name := "names", fn := fun _ => fun
  | [] => { results := [.lit (.bool false)], args := [] }
  | _ => none }
def NamesWrongFalsely : Prop := namesRow.holds Try.pinned (OpenSpec.ofChange namesWrong)

/-- 'tidekeep.NumCeil': WHATEVER THE INPUT: true; the input reads as it did. -/
def numCeilSpec : ChangeSpec := { name := "numCeil", fn := fun _ => fun
  | [d1, d2] => { results := [.lit (.bool true)], args := [d1, d2] }
  | _ => none }
def numCeilRow : OpenClaim := { program := "ytfipfikinkhpmaa", sum := "228d806b8a44ab973c77d64b98a6f09f03613d55d78c4e3e48b89fab41963870", func := "tidewheel/tidekeep.NumCeil", spec := "numCeil", apart := false }
def NumCeilSaid : Prop := numCeilRow.holds Try.pinned (OpenSpec.ofChange numCeilSpec)

/-- ITS FALSE NEIGHBOUR: 'it returns false'. Refute it at one input. -/
def numCeilWrong : ChangeSpec := { name := "numCeil", fn := fun _ => fun
  | [d1, d2] => { results := [.lit (.bool false)], args := [d1, d2] }
  | _ => none }
def NumCeilWrongFalsely : Prop := numCeilRow.holds Try.pinned (OpenSpec.ofChange numCeilWrong)

/-- 'tidekeep.NumLaws': WHATEVER THE INPUT: true; the input reads as it did. -/
def numLawsSpec : ChangeSpec := { name := "numLaws", fn := fun _ => fun
  | [d1, d2, d3] => { results := [.lit (.bool true)], args := [d1, d2, d3] }
  | _ => none }
def numLawsRow : OpenClaim := { program := "ytfipfikinkhpmaa", sum := "228d806b8a44ab973c77d64b98a6f09f03613d55d78c4e3e48b89fab41963870", func := "tidewheel/tidekeep.NumLaws", spec := "numLaws", apart := false }
def NumLawsSaid : Prop := numLawsRow.holds Try.pinned (OpenSpec.ofChange numLawsSpec)

/-- ITS FALSE NEIGHBOUR: 'it returns false'. Refute it at one input. -/
def numLawsWrong : ChangeSpec := { name := "numLaws", fn := fun _ => fun
  | [d1, d2, d3] => { results := [.lit (.bool false)], args := [d1, d2, d3] }
  | _ => none }
def NumLawsWrongFalsely : Prop := numLawsRow.holds Try.pinned (OpenSpec.ofChange numLawsWrong)

/-- 'tidekeep.NumShare': WHATEVER THE INPUT: true; the input reads as it did. -/
def numShareSpec : ChangeSpec := { name := "numShare", fn := fun _ => fun
  | [d1, d2, d3] => { results := [.lit (.bool true)], args := [d1, d2, d3] }
  | _ => none }
def numShareRow : OpenClaim := { program := "ytfipfikinkhpmaa", sum := "228d806b8a44ab973c77d64b98a6f09f03613d55d78c4e3e48b89fab41963870", func := "tidewheel/tidekeep.NumShare", spec := "numShare", apart := false }
def NumShareSaid : Prop := numShareRow.holds Try.pinned (OpenSpec.ofChange numShareSpec)

/-- ITS FALSE NEIGHBOUR: 'it returns false'. Refute it at one input. -/
def numShareWrong : ChangeSpec := { name := "numShare", fn := fun _ => fun
  | [d1, d2, d3] => { results := [.lit (.bool false)], args := [d1, d2, d3] }
  | _ => none }
def NumShareWrongFalsely : Prop := numShareRow.holds Try.pinned (OpenSpec.ofChange numShareWrong)

/-- 'tidekeep.CivilYears': WHATEVER THE INPUT: true; the input reads as it did. -/
def civilYearsSpec : ChangeSpec := { name := "civilYears", fn := fun _ => fun
  | [d1, d2] => { results := [.lit (.bool true)], args := [d1, d2] }
  | _ => none }
def civilYearsRow : OpenClaim := { program := "ytfipfikinkhpmaa", sum := "228d806b8a44ab973c77d64b98a6f09f03613d55d78c4e3e48b89fab41963870", func := "tidewheel/tidekeep.CivilYears", spec := "civilYears", apart := false }
def CivilYearsSaid : Prop := civilYearsRow.holds Try.pinned (OpenSpec.ofChange civilYearsSpec)

/-- ITS FALSE NEIGHBOUR: 'it returns false'. Refute it at one input. -/
def civilYearsWrong : ChangeSpec := { name := "civilYears", fn := fun _ => fun
  | [d1, d2] => { results := [.lit (.bool false)], args := [d1, d2] }
  | _ => none }
def CivilYearsWrongFalsely : Prop := civilYearsRow.holds Try.pinned (OpenSpec.ofChange civilYearsWrong)

/-- 'tidekeep.CronOr': WHATEVER THE INPUT: true; the input reads as it did. -/
def cronOrSpec : ChangeSpec := { name := "cronOr", fn := fun _ => fun
  | [d1, d2] => { results := [.lit (.bool true)], args := [d1, d2] }
  | _ => none }
def cronOrRow : OpenClaim := { program := "ytfipfikinkhpmaa", sum := "228d806b8a44ab973c77d64b98a6f09f03613d55d78c4e3e48b89fab41963870", func := "tidewheel/tidekeep.CronOr", spec := "cronOr", apart := false }
def CronOrSaid : Prop := cronOrRow.holds Try.pinned (OpenSpec.ofChange cronOrSpec)

/-- ITS FALSE NEIGHBOUR: 'it returns false'. Refute it at one input. -/
def cronOrWrong : ChangeSpec := { name := "cronOr", fn := fun _ => fun
  | [d1, d2] => { results := [.lit (.bool false)], args := [d1, d2] }
  | _ => none }
def CronOrWrongFalsely : Prop := cronOrRow.holds Try.pinned (OpenSpec.ofChange cronOrWrong)

/-- 'tidelaw.NumSays': WHATEVER THE INPUT: true; the input reads as it did. -/
def numSaysSpec : ChangeSpec := { name := "numSays", fn := fun _ => fun
  | [d1, d2] => { results := [.lit (.bool true)], args := [d1, d2] }
  | _ => none }
def numSaysRow : OpenClaim := { program := "ytfipfikinkhpmaa", sum := "228d806b8a44ab973c77d64b98a6f09f03613d55d78c4e3e48b89fab41963870", func := "tidewheel/tidelaw.NumSays", spec := "numSays", apart := false }
def NumSaysSaid : Prop := numSaysRow.holds Try.pinned (OpenSpec.ofChange numSaysSpec)

/-- ITS FALSE NEIGHBOUR: 'it returns false'. Refute it at one input. -/
def numSaysWrong : ChangeSpec := { name := "numSays", fn := fun _ => fun
  | [d1, d2] => { results := [.lit (.bool false)], args := [d1, d2] }
  | _ => none }
def NumSaysWrongFalsely : Prop := numSaysRow.holds Try.pinned (OpenSpec.ofChange numSaysWrong)

/-- 'tidelaw.CivilSeconds': WHATEVER THE INPUT: true; the input reads as it did. -/
def civilSecondsSpec : ChangeSpec := { name := "civilSeconds", fn := fun _ => fun
  | [d1, d2] => { results := [.lit (.bool true)], args := [d1, d2] }
  | _ => none }
def civilSecondsRow : OpenClaim := { program := "ytfipfikinkhpmaa", sum := "228d806b8a44ab973c77d64b98a6f09f03613d55d78c4e3e48b89fab41963870", func := "tidewheel/tidelaw.CivilSeconds", spec := "civilSeconds", apart := false }
def CivilSecondsSaid : Prop := civilSecondsRow.holds Try.pinned (OpenSpec.ofChange civilSecondsSpec)

/-- ITS FALSE NEIGHBOUR: 'it returns false'. Refute it at one input. -/
def civilSecondsWrong : ChangeSpec := { name := "civilSeconds", fn := fun _ => fun
  | [d1, d2] => { results := [.lit (.bool false)], args := [d1, d2] }
  | _ => none }
def CivilSecondsWrongFalsely : Prop := civilSecondsRow.holds Try.pinned (OpenSpec.ofChange civilSecondsWrong)

/-- 'tidelaw.CivilSays': WHATEVER THE INPUT: true; the input reads as it did. -/
def civilSaysSpec : ChangeSpec := { name := "civilSays", fn := fun _ => fun
  | [d1, d2, d3, d4, d5] => { results := [.lit (.bool true)], args := [d1, d2, d3, d4, d5] }
  | _ => none }
def civilSaysRow : OpenClaim := { program := "ytfipfikinkhpmaa", sum := "228d806b8a44ab973c77d64b98a6f09f03613d55d78c4e3e48b89fab41963870", func := "tidewheel/tidelaw.CivilSays", spec := "civilSays", apart := false }
def CivilSaysSaid : Prop := civilSaysRow.holds Try.pinned (OpenSpec.ofChange civilSaysSpec)

/-- ITS FALSE NEIGHBOUR: 'it returns false'. Refute it at one input. -/
def civilSaysWrong : ChangeSpec := { name := "civilSays", fn := fun _ => fun
  | [d1, d2, d3, d4, d5] => { results := [.lit (.bool false)], args := [d1, d2, d3, d4, d5] }
  | _ => none }
def CivilSaysWrongFalsely : Prop := civilSaysRow.holds Try.pinned (OpenSpec.ofChange civilSaysWrong)

/-- 'tidekeep.CivilBack': WHATEVER THE INPUT: true; the input reads as it did. -/
def civilBackSpec : ChangeSpec := { name := "civilBack", fn := fun _ => fun
  | [d1, d2] => { results := [.lit (.bool true)], args := [d1, d2] }
  | _ => none }
def civilBackRow : OpenClaim := { program := "ytfipfikinkhpmaa", sum := "228d806b8a44ab973c77d64b98a6f09f03613d55d78c4e3e48b89fab41963870", func := "tidewheel/tidekeep.CivilBack", spec := "civilBack", apart := false }
def CivilBackSaid : Prop := civilBackRow.holds Try.pinned (OpenSpec.ofChange civilBackSpec)

/-- ITS FALSE NEIGHBOUR: 'it returns false'. Refute it at one input. -/
def civilBackWrong : ChangeSpec := { name := "civilBack", fn := fun _ => fun
  | [d1, d2] => { results := [.lit (.bool false)], args := [d1, d2] }
  | _ => none }
def CivilBackWrongFalsely : Prop := civilBackRow.holds Try.pinned (OpenSpec.ofChange civilBackWrong)

/-- 'tidekeep.CivilRight': WHATEVER THE INPUT: true; the input reads as it did. -/
def civilRightSpec : ChangeSpec := { name := "civilRight", fn := fun _ => fun
  | [d1, d2] => { results := [.lit (.bool true)], args := [d1, d2] }
  | _ => none }
def civilRightRow : OpenClaim := { program := "ytfipfikinkhpmaa", sum := "228d806b8a44ab973c77d64b98a6f09f03613d55d78c4e3e48b89fab41963870", func := "tidewheel/tidekeep.CivilRight", spec := "civilRight", apart := false }
def CivilRightSaid : Prop := civilRightRow.holds Try.pinned (OpenSpec.ofChange civilRightSpec)

/-- ITS FALSE NEIGHBOUR: 'it returns false'. Refute it at one input. -/
def civilRightWrong : ChangeSpec := { name := "civilRight", fn := fun _ => fun
  | [d1, d2] => { results := [.lit (.bool false)], args := [d1, d2] }
  | _ => none }
def CivilRightWrongFalsely : Prop := civilRightRow.holds Try.pinned (OpenSpec.ofChange civilRightWrong)

/- THE SECOND FORM. 'bulk': how many values and letters a reading holds, each counted each time it is reached (what is shared counts as often as it is met; a slice's spare places count too). A statement '..UptoSaid' is the law's where the arguments, and the package variables that the reading takes, are together of bulk at most 1048576: NARROWER than '..Said'. Prove '..Said' where nothing that the law and all that it calls make is longer than what came in: it says more and counts as full. Else prove '..UptoSaid'. A law counts once. -/
mutual
def uptoBulk {H : Type} : DataW H → Nat
  | .lit (.string bytes) => bytes.length + 1
  | .lit _ => 1
  | .nil => 1
  | .ptr d => uptoBulk d + 1
  | .slice elems spare => uptoBulkAll elems + uptoBulkAll spare + 1
  | .agg parts => uptoBulkAll parts + 1
  | .iface _ d => uptoBulk d + 1
  | .map entries => uptoBulkEntries entries + 1
  | .held _ => 1
def uptoBulkAll {H : Type} : List (DataW H) → Nat
  | [] => 0
  | d :: r => uptoBulk d + uptoBulkAll r
def uptoBulkEntries {H : Type} : List (Lit × DataW H) → Nat
  | [] => 0
  | x :: r => uptoBulkEntry x + uptoBulkEntries r
def uptoBulkEntry {H : Type} : Lit × DataW H → Nat
  | (.string bytes, d) => bytes.length + uptoBulk d + 1
  | (_, d) => uptoBulk d + 1
 end
def uptoSmall : (H : Type) → List (DataW H) → Bool := fun _ ds => decide (uptoBulkAll ds ≤ 1048576)
def OpenSpec.upto (s : _root_.Go.ChangeSpec) : _root_.Go.OpenSpec := { _root_.Go.OpenSpec.ofChange s with cond := some uptoSmall }

/-- 'tidelaw.Names', WHERE WHAT IT READS IS OF BULK AT MOST 1048576: true; the input reads as it did. -/
def namesUptoRow : OpenClaim := { program := "ytfipfikinkhpmaa", sum := "228d806b8a44ab973c77d64b98a6f09f03613d55d78c4e3e48b89fab41963870", func := "tidewheel/tidelaw.Names", spec := "names", apart := false, narrowed := true }
def NamesUptoSaid : Prop := namesUptoRow.holds Try.pinned (OpenSpec.upto namesSpec)

/-- 'tidekeep.NumCeil', WHERE WHAT IT READS IS OF BULK AT MOST 1048576: true; the input reads as it did. -/
def numCeilUptoRow : OpenClaim := { program := "ytfipfikinkhpmaa", sum := "228d806b8a44ab973c77d64b98a6f09f03613d55d78c4e3e48b89fab41963870", func := "tidewheel/tidekeep.NumCeil", spec := "numCeil", apart := false, narrowed := true }
def NumCeilUptoSaid : Prop := numCeilUptoRow.holds Try.pinned (OpenSpec.upto numCeilSpec)

/-- 'tidekeep.NumLaws', WHERE WHAT IT READS IS OF BULK AT MOST 1048576: true; the input reads as it did. -/
def numLawsUptoRow : OpenClaim := { program := "ytfipfikinkhpmaa", sum := "228d806b8a44ab973c77d64b98a6f09f03613d55d78c4e3e48b89fab41963870", func := "tidewheel/tidekeep.NumLaws", spec := "numLaws", apart := false, narrowed := true }
def NumLawsUptoSaid : Prop := numLawsUptoRow.holds Try.pinned (OpenSpec.upto numLawsSpec)

/-- 'tidekeep.NumShare', WHERE WHAT IT READS IS OF BULK AT MOST 1048576: true; the input reads as it did. -/
def numShareUptoRow : OpenClaim := { program := "ytfipfikinkhpmaa", sum := "228d806b8a44ab973c77d64b98a6f09f03613d55d78c4e3e48b89fab41963870", func := "tidewheel/tidekeep.NumShare", spec := "numShare", apart := false, narrowed := true }
def NumShareUptoSaid : Prop := numShareUptoRow.holds Try.pinned (OpenSpec.upto numShareSpec)

/-- 'tidekeep.CivilYears', WHERE WHAT IT READS IS OF BULK AT MOST 1048576: true; the input reads as it did. -/
def civilYearsUptoRow : OpenClaim := { program := "ytfipfikinkhpmaa", sum := "228d806b8a44ab973c77d64b98a6f09f03613d55d78c4e3e48b89fab41963870", func := "tidewheel/tidekeep.CivilYears", spec := "civilYears", apart := false, narrowed := true }
def CivilYearsUptoSaid : Prop := civilYearsUptoRow.holds Try.pinned (OpenSpec.upto civilYearsSpec)

/-- 'tidekeep.CronOr', WHERE WHAT IT READS IS OF BULK AT MOST 1048576: true; the input reads as it did. -/
def cronOrUptoRow : OpenClaim := { program := "ytfipfikinkhpmaa", sum := "228d806b8a44ab973c77d64b98a6f09f03613d55d78c4e3e48b89fab41963870", func := "tidewheel/tidekeep.CronOr", spec := "cronOr", apart := false, narrowed := true }
def CronOrUptoSaid : Prop := cronOrUptoRow.holds Try.pinned (OpenSpec.upto cronOrSpec)

/-- 'tidelaw.NumSays', WHERE WHAT IT READS IS OF BULK AT MOST 1048576: true; the input reads as it did. -/
def numSaysUptoRow : OpenClaim := { program := "ytfipfikinkhpmaa", sum := "228d806b8a44ab973c77d64b98a6f09f03613d55d78c4e3e48b89fab41963870", func := "tidewheel/tidelaw.NumSays", spec := "numSays", apart := false, narrowed := true }
def NumSaysUptoSaid : Prop := numSaysUptoRow.holds Try.pinned (OpenSpec.upto numSaysSpec)

/-- 'tidelaw.CivilSeconds', WHERE WHAT IT READS IS OF BULK AT MOST 1048576: true; the input reads as it did. -/
def civilSecondsUptoRow : OpenClaim := { program := "ytfipfikinkhpmaa", sum := "228d806b8a44ab973c77d64b98a6f09f03613d55d78c4e3e48b89fab41963870", func := "tidewheel/tidelaw.CivilSeconds", spec := "civilSeconds", apart := false, narrowed := true }
def CivilSecondsUptoSaid : Prop := civilSecondsUptoRow.holds Try.pinned (OpenSpec.upto civilSecondsSpec)

/-- 'tidelaw.CivilSays', WHERE WHAT IT READS IS OF BULK AT MOST 1048576: true; the input reads as it did. -/
def civilSaysUptoRow : OpenClaim := { program := "ytfipfikinkhpmaa", sum := "228d806b8a44ab973c77d64b98a6f09f03613d55d78c4e3e48b89fab41963870", func := "tidewheel/tidelaw.CivilSays", spec := "civilSays", apart := false, narrowed := true }
def CivilSaysUptoSaid : Prop := civilSaysUptoRow.holds Try.pinned (OpenSpec.upto civilSaysSpec)

/-- 'tidekeep.CivilBack', WHERE WHAT IT READS IS OF BULK AT MOST 1048576: true; the input reads as it did. -/
def civilBackUptoRow : OpenClaim := { program := "ytfipfikinkhpmaa", sum := "228d806b8a44ab973c77d64b98a6f09f03613d55d78c4e3e48b89fab41963870", func := "tidewheel/tidekeep.CivilBack", spec := "civilBack", apart := false, narrowed := true }
def CivilBackUptoSaid : Prop := civilBackUptoRow.holds Try.pinned (OpenSpec.upto civilBackSpec)

/-- 'tidekeep.CivilRight', WHERE WHAT IT READS IS OF BULK AT MOST 1048576: true; the input reads as it did. -/
def civilRightUptoRow : OpenClaim := { program := "ytfipfikinkhpmaa", sum := "228d806b8a44ab973c77d64b98a6f09f03613d55d78c4e3e48b89fab41963870", func := "tidewheel/tidekeep.CivilRight", spec := "civilRight", apart := false, narrowed := true }
def CivilRightUptoSaid : Prop := civilRightUptoRow.holds Try.pinned (OpenSpec.upto civilRightSpec)

end Rows
end Go.Proofs.Ytfipfikinkhpmaa
