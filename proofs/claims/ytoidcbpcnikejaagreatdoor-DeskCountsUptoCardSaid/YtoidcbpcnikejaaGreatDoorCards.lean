/-
  DERIVED. GIVEN WITH THE SEED: THE CARDS: each row of YtoidcbpcnikejaaGreatDoorRows.lean that lists a variable, with what it lists TIED to the program's text (the seventh form; the later family's looks); each row that meets fmt, with fmt's text TOLD by the authors' own Lean function (tested against real Go, not proved from fmt's source: count such statements apart). THE CARD IS WHAT COUNTS. Prove the row's statement (the work); the ties are given (YtoidcbpcnikejaaGreatDoorTie.lean); close each card by the builder's one call (the guide's Derived/Test/ToyasCard.lean, 'card_holds'). Laid BY PROGRAM, IN A SANDBOX (cutbox-door.mjs). By AI agents, Wed Nov 11 2026. No macro, syntax, notation, axiom, sorry.
-/
import Derived.Test.YtoidcbpcnikejaaGreatDoorRows
import GoSem.ClaimSeven
namespace Go.Proofs.YtoidcbpcnikejaaGreatDoor
namespace Rows

/-- THE TIED CARD OF 'tidekeep.DeskCounts'. -/
def deskCountsCard : Claim7 := { stood := { row := deskCountsRow, standIns := [], harness := (true, "ae4bb3e930c36679ccc2ac7cd0bd1ee2e930180dfc3877b630b388a654b53cb2"), looks := true }, kinds := [], alts := [], laidByText := true, laidKinds := [.data, .data, .data, .data, .handle, .pinned], laidTests := true, laidLooks := .later }
def DeskCountsCardSaid : Prop := Claim7.holds Tryz.pinned (.plain (OpenSpec.ofChange deskCountsSpec)) deskCountsCard

/-- THE TIED CARD OF 'tidekeep.DeskHead'. -/
def deskHeadCard : Claim7 := { stood := { row := deskHeadRow, standIns := [], harness := (true, "ae4bb3e930c36679ccc2ac7cd0bd1ee2e930180dfc3877b630b388a654b53cb2"), looks := true }, kinds := [], alts := [], laidByText := true, laidKinds := [.data, .data, .data, .data, .handle, .pinned], laidTests := true, laidLooks := .later }
def DeskHeadCardSaid : Prop := Claim7.holds Tryz.pinned (.plain (OpenSpec.ofChange deskHeadSpec)) deskHeadCard

/-- THE SECOND FORM's CARD OF 'tidekeep.DeskCounts'. -/
def deskCountsUptoCard : Claim7 := { stood := { row := deskCountsUptoRow, standIns := [], harness := (true, "ae4bb3e930c36679ccc2ac7cd0bd1ee2e930180dfc3877b630b388a654b53cb2"), looks := true }, kinds := [], alts := [], laidByText := true, laidKinds := [.data, .data, .data, .data, .handle, .pinned], laidTests := true, laidLooks := .later }
def DeskCountsUptoCardSaid : Prop := Claim7.holds Tryz.pinned (.plain (OpenSpec.upto deskCountsSpec)) deskCountsUptoCard

/-- THE SECOND FORM's CARD OF 'tidekeep.DeskHead'. -/
def deskHeadUptoCard : Claim7 := { stood := { row := deskHeadUptoRow, standIns := [], harness := (true, "ae4bb3e930c36679ccc2ac7cd0bd1ee2e930180dfc3877b630b388a654b53cb2"), looks := true }, kinds := [], alts := [], laidByText := true, laidKinds := [.data, .data, .data, .data, .handle, .pinned], laidTests := true, laidLooks := .later }
def DeskHeadUptoCardSaid : Prop := Claim7.holds Tryz.pinned (.plain (OpenSpec.upto deskHeadSpec)) deskHeadUptoCard
end Rows
end Go.Proofs.YtoidcbpcnikejaaGreatDoor
