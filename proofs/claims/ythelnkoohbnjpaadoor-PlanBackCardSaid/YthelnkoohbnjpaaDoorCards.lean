/-
  DERIVED. GIVEN WITH THE SEED: THE CARDS: each row of YthelnkoohbnjpaaDoorRows.lean that lists a variable, with what it lists TIED to the program's text (the seventh form; the later family's looks); each row that meets fmt, with fmt's text TOLD by the authors' own Lean function (tested against real Go, not proved from fmt's source: count such statements apart). THE CARD IS WHAT COUNTS. Prove the row's statement (the work); the ties are given (YthelnkoohbnjpaaDoorTie.lean); close each card by the builder's one call (the guide's Derived/Test/ToyasCard.lean, 'card_holds'). Laid BY PROGRAM, IN A SANDBOX (cutbox-door.mjs). By AI agents, Wed Nov 11 2026. No macro, syntax, notation, axiom, sorry.
-/
import Derived.Test.YthelnkoohbnjpaaDoorRows
import GoSem.ClaimSeven
namespace Go.Proofs.YthelnkoohbnjpaaDoor
namespace Rows

/-- THE TIED CARD OF 'tidelaw.CronReads'. -/
def cronReadsCard : Claim7 := { stood := { row := cronReadsRow, standIns := [], harness := (true, "4fde203b0cfd1303f4caab14db9e9fa84f80230bbc730a976b11a4665dc7114e"), looks := false }, kinds := [], alts := [], laidByText := true, laidKinds := [.data, .pinned], laidTests := true, laidLooks := .later }
def CronReadsCardSaid : Prop := Claim7.holds Tryd.pinned (.plain (OpenSpec.ofChange cronReadsSpec)) cronReadsCard

/-- THE TIED CARD OF 'tidelaw.CronSays'. -/
def cronSaysCard : Claim7 := { stood := { row := cronSaysRow, standIns := [], harness := (true, "4fde203b0cfd1303f4caab14db9e9fa84f80230bbc730a976b11a4665dc7114e"), looks := false }, kinds := [], alts := [], laidByText := true, laidKinds := [.data, .data, .data], laidTests := true, laidLooks := .later }
def CronSaysCardSaid : Prop := Claim7.holds Tryd.pinned (.plain (OpenSpec.ofChange cronSaysSpec)) cronSaysCard

/-- THE TIED CARD OF 'tidelaw.PlanSays'. -/
def planSaysCard : Claim7 := { stood := { row := planSaysRow, standIns := [], harness := (true, "4fde203b0cfd1303f4caab14db9e9fa84f80230bbc730a976b11a4665dc7114e"), looks := false }, kinds := [], alts := [], laidByText := true, laidKinds := [.data, .data, .data], laidTests := true, laidLooks := .later }
def PlanSaysCardSaid : Prop := Claim7.holds Tryd.pinned (.plain (OpenSpec.ofChange planSaysSpec)) planSaysCard

/-- THE TIED CARD OF 'tidelaw.PlanReads'. -/
def planReadsCard : Claim7 := { stood := { row := planReadsRow, standIns := [], harness := (true, "4fde203b0cfd1303f4caab14db9e9fa84f80230bbc730a976b11a4665dc7114e"), looks := false }, kinds := [], alts := [], laidByText := true, laidKinds := [.data, .pinned], laidTests := true, laidLooks := .later }
def PlanReadsCardSaid : Prop := Claim7.holds Tryd.pinned (.plain (OpenSpec.ofChange planReadsSpec)) planReadsCard

/-- THE TIED CARD OF 'tidekeep.CronBack'. -/
def cronBackCard : Claim7 := { stood := { row := cronBackRow, standIns := [], harness := (true, "4fde203b0cfd1303f4caab14db9e9fa84f80230bbc730a976b11a4665dc7114e"), looks := false }, kinds := [], alts := [], laidByText := true, laidKinds := [.data, .data, .data, .data, .pinned], laidTests := true, laidLooks := .later }
def CronBackCardSaid : Prop := Claim7.holds Tryd.pinned (.plain (OpenSpec.ofChange cronBackSpec)) cronBackCard

/-- THE TIED CARD OF 'tidekeep.PlanBack'. -/
def planBackCard : Claim7 := { stood := { row := planBackRow, standIns := [], harness := (true, "4fde203b0cfd1303f4caab14db9e9fa84f80230bbc730a976b11a4665dc7114e"), looks := false }, kinds := [], alts := [], laidByText := true, laidKinds := [.data, .data, .data, .data, .pinned], laidTests := true, laidLooks := .later }
def PlanBackCardSaid : Prop := Claim7.holds Tryd.pinned (.plain (OpenSpec.ofChange planBackSpec)) planBackCard

/-- THE SECOND FORM's CARD OF 'tidelaw.CronReads'. -/
def cronReadsUptoCard : Claim7 := { stood := { row := cronReadsUptoRow, standIns := [], harness := (true, "4fde203b0cfd1303f4caab14db9e9fa84f80230bbc730a976b11a4665dc7114e"), looks := false }, kinds := [], alts := [], laidByText := true, laidKinds := [.data, .pinned], laidTests := true, laidLooks := .later }
def CronReadsUptoCardSaid : Prop := Claim7.holds Tryd.pinned (.plain (OpenSpec.upto cronReadsSpec)) cronReadsUptoCard

/-- THE SECOND FORM's CARD OF 'tidelaw.CronSays'. -/
def cronSaysUptoCard : Claim7 := { stood := { row := cronSaysUptoRow, standIns := [], harness := (true, "4fde203b0cfd1303f4caab14db9e9fa84f80230bbc730a976b11a4665dc7114e"), looks := false }, kinds := [], alts := [], laidByText := true, laidKinds := [.data, .data, .data], laidTests := true, laidLooks := .later }
def CronSaysUptoCardSaid : Prop := Claim7.holds Tryd.pinned (.plain (OpenSpec.upto cronSaysSpec)) cronSaysUptoCard

/-- THE SECOND FORM's CARD OF 'tidelaw.PlanSays'. -/
def planSaysUptoCard : Claim7 := { stood := { row := planSaysUptoRow, standIns := [], harness := (true, "4fde203b0cfd1303f4caab14db9e9fa84f80230bbc730a976b11a4665dc7114e"), looks := false }, kinds := [], alts := [], laidByText := true, laidKinds := [.data, .data, .data], laidTests := true, laidLooks := .later }
def PlanSaysUptoCardSaid : Prop := Claim7.holds Tryd.pinned (.plain (OpenSpec.upto planSaysSpec)) planSaysUptoCard

/-- THE SECOND FORM's CARD OF 'tidelaw.PlanReads'. -/
def planReadsUptoCard : Claim7 := { stood := { row := planReadsUptoRow, standIns := [], harness := (true, "4fde203b0cfd1303f4caab14db9e9fa84f80230bbc730a976b11a4665dc7114e"), looks := false }, kinds := [], alts := [], laidByText := true, laidKinds := [.data, .pinned], laidTests := true, laidLooks := .later }
def PlanReadsUptoCardSaid : Prop := Claim7.holds Tryd.pinned (.plain (OpenSpec.upto planReadsSpec)) planReadsUptoCard

/-- THE SECOND FORM's CARD OF 'tidekeep.CronBack'. -/
def cronBackUptoCard : Claim7 := { stood := { row := cronBackUptoRow, standIns := [], harness := (true, "4fde203b0cfd1303f4caab14db9e9fa84f80230bbc730a976b11a4665dc7114e"), looks := false }, kinds := [], alts := [], laidByText := true, laidKinds := [.data, .data, .data, .data, .pinned], laidTests := true, laidLooks := .later }
def CronBackUptoCardSaid : Prop := Claim7.holds Tryd.pinned (.plain (OpenSpec.upto cronBackSpec)) cronBackUptoCard

/-- THE SECOND FORM's CARD OF 'tidekeep.PlanBack'. -/
def planBackUptoCard : Claim7 := { stood := { row := planBackUptoRow, standIns := [], harness := (true, "4fde203b0cfd1303f4caab14db9e9fa84f80230bbc730a976b11a4665dc7114e"), looks := false }, kinds := [], alts := [], laidByText := true, laidKinds := [.data, .data, .data, .data, .pinned], laidTests := true, laidLooks := .later }
def PlanBackUptoCardSaid : Prop := Claim7.holds Tryd.pinned (.plain (OpenSpec.upto planBackSpec)) planBackUptoCard
end Rows
end Go.Proofs.YthelnkoohbnjpaaDoor
