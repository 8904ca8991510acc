/-
  DERIVED. GIVEN WITH THE SEED: THE CARDS: each row of YtbmpjppfdeohnaaDoorRows.lean that lists a variable, with what it lists TIED to the program's text (the seventh form; the later family's looks); each row that meets fmt, with fmt's text TOLD by the authors' own Lean function (tested against real Go, not proved from fmt's source: count such statements apart). THE CARD IS WHAT COUNTS. Prove the row's statement (the work); the ties are given (YtbmpjppfdeohnaaDoorTie.lean); close each card by the builder's one call (the guide's Derived/Test/ToyasCard.lean, 'card_holds'). Laid BY PROGRAM, IN A SANDBOX (cutbox-door.mjs). By AI agents, Wed Nov 11 2026. No macro, syntax, notation, axiom, sorry.
-/
import Derived.Test.YtbmpjppfdeohnaaDoorRows
import GoSem.ClaimSeven
namespace Go.Proofs.YtbmpjppfdeohnaaDoor
namespace Rows

/-- THE TIED CARD OF 'claplaw2.KeysLossless'. -/
def keysLosslessCard : Claim7 := { stood := { row := keysLosslessRow, standIns := [], harness := (true, "5dffbc0deecceb2c3425950080d3c00500808b8004be27ed6747c5e540fb116c"), looks := true }, kinds := [], alts := [], laidByText := true, laidKinds := [.data, .data, .data], laidTests := true, laidLooks := .later }
def KeysLosslessCardSaid : Prop := Claim7.holds Tryd.pinned (.plain (OpenSpec.ofChange keysLosslessSpec)) keysLosslessCard

/-- THE TIED CARD OF 'claplaw2.TreeFinds'. -/
def treeFindsCard : Claim7 := { stood := { row := treeFindsRow, standIns := [], harness := (true, "5dffbc0deecceb2c3425950080d3c00500808b8004be27ed6747c5e540fb116c"), looks := true }, kinds := [], alts := [], laidByText := true, laidKinds := [.data, .data, .data], laidTests := true, laidLooks := .later }
def TreeFindsCardSaid : Prop := Claim7.holds Tryd.pinned (.plain (OpenSpec.ofChange treeFindsSpec)) treeFindsCard

/-- THE TIED CARD OF 'claplaw2.PathFinds'. -/
def pathFindsCard : Claim7 := { stood := { row := pathFindsRow, standIns := [], harness := (true, "5dffbc0deecceb2c3425950080d3c00500808b8004be27ed6747c5e540fb116c"), looks := true }, kinds := [], alts := [], laidByText := true, laidKinds := [.data, .data, .data], laidTests := true, laidLooks := .later }
def PathFindsCardSaid : Prop := Claim7.holds Tryd.pinned (.plain (OpenSpec.ofChange pathFindsSpec)) pathFindsCard

/-- THE TIED CARD OF 'claplaw2.FixedWrites'. -/
def fixedWritesCard : Claim7 := { stood := { row := fixedWritesRow, standIns := [], harness := (true, "5dffbc0deecceb2c3425950080d3c00500808b8004be27ed6747c5e540fb116c"), looks := true }, kinds := [], alts := [], laidByText := true, laidKinds := [.data, .data, .data, .sentinel, .sentinel], laidTests := true, laidLooks := .later }
def FixedWritesCardSaid : Prop := Claim7.holds Tryd.pinned (.plain (OpenSpec.ofChange fixedWritesSpec)) fixedWritesCard

/-- THE TIED CARD OF 'claplaw2.LoadScalars'. -/
def loadScalarsCard : Claim7 := { stood := { row := loadScalarsRow, standIns := [], harness := (true, "5dffbc0deecceb2c3425950080d3c00500808b8004be27ed6747c5e540fb116c"), looks := true }, kinds := [], alts := [], laidByText := true, laidKinds := [.data, .data, .data, .sentinel, .sentinel], laidTests := true, laidLooks := .later }
def LoadScalarsCardSaid : Prop := Claim7.holds Tryd.pinned (.plain (OpenSpec.ofChange loadScalarsSpec)) loadScalarsCard

/-- THE TIED CARD OF 'claplaw2.PathSteps'. -/
def pathStepsCard : Claim7 := { stood := { row := pathStepsRow, standIns := [], harness := (true, "5dffbc0deecceb2c3425950080d3c00500808b8004be27ed6747c5e540fb116c"), looks := true }, kinds := [], alts := [], laidByText := true, laidKinds := [.data, .data, .data, .sentinel, .sentinel], laidTests := true, laidLooks := .later }
def PathStepsCardSaid : Prop := Claim7.holds Tryd.pinned (.plain (OpenSpec.ofChange pathStepsSpec)) pathStepsCard

/-- THE TIED CARD OF 'claplaw2.FixedChecks'. -/
def fixedChecksCard : Claim7 := { stood := { row := fixedChecksRow, standIns := [], harness := (true, "5dffbc0deecceb2c3425950080d3c00500808b8004be27ed6747c5e540fb116c"), looks := true }, kinds := [], alts := [], laidByText := true, laidKinds := [.data, .data, .data], laidTests := true, laidLooks := .later }
def FixedChecksCardSaid : Prop := Claim7.holds Tryd.pinned (.plain (OpenSpec.ofChange fixedChecksSpec)) fixedChecksCard

/-- THE SECOND FORM's CARD OF 'claplaw2.KeysLossless'. -/
def keysLosslessUptoCard : Claim7 := { stood := { row := keysLosslessUptoRow, standIns := [], harness := (true, "5dffbc0deecceb2c3425950080d3c00500808b8004be27ed6747c5e540fb116c"), looks := true }, kinds := [], alts := [], laidByText := true, laidKinds := [.data, .data, .data], laidTests := true, laidLooks := .later }
def KeysLosslessUptoCardSaid : Prop := Claim7.holds Tryd.pinned (.plain (OpenSpec.upto keysLosslessSpec)) keysLosslessUptoCard

/-- THE SECOND FORM's CARD OF 'claplaw2.TreeFinds'. -/
def treeFindsUptoCard : Claim7 := { stood := { row := treeFindsUptoRow, standIns := [], harness := (true, "5dffbc0deecceb2c3425950080d3c00500808b8004be27ed6747c5e540fb116c"), looks := true }, kinds := [], alts := [], laidByText := true, laidKinds := [.data, .data, .data], laidTests := true, laidLooks := .later }
def TreeFindsUptoCardSaid : Prop := Claim7.holds Tryd.pinned (.plain (OpenSpec.upto treeFindsSpec)) treeFindsUptoCard

/-- THE SECOND FORM's CARD OF 'claplaw2.PathFinds'. -/
def pathFindsUptoCard : Claim7 := { stood := { row := pathFindsUptoRow, standIns := [], harness := (true, "5dffbc0deecceb2c3425950080d3c00500808b8004be27ed6747c5e540fb116c"), looks := true }, kinds := [], alts := [], laidByText := true, laidKinds := [.data, .data, .data], laidTests := true, laidLooks := .later }
def PathFindsUptoCardSaid : Prop := Claim7.holds Tryd.pinned (.plain (OpenSpec.upto pathFindsSpec)) pathFindsUptoCard

/-- THE SECOND FORM's CARD OF 'claplaw2.FixedWrites'. -/
def fixedWritesUptoCard : Claim7 := { stood := { row := fixedWritesUptoRow, standIns := [], harness := (true, "5dffbc0deecceb2c3425950080d3c00500808b8004be27ed6747c5e540fb116c"), looks := true }, kinds := [], alts := [], laidByText := true, laidKinds := [.data, .data, .data, .sentinel, .sentinel], laidTests := true, laidLooks := .later }
def FixedWritesUptoCardSaid : Prop := Claim7.holds Tryd.pinned (.plain (OpenSpec.upto fixedWritesSpec)) fixedWritesUptoCard

/-- THE SECOND FORM's CARD OF 'claplaw2.LoadScalars'. -/
def loadScalarsUptoCard : Claim7 := { stood := { row := loadScalarsUptoRow, standIns := [], harness := (true, "5dffbc0deecceb2c3425950080d3c00500808b8004be27ed6747c5e540fb116c"), looks := true }, kinds := [], alts := [], laidByText := true, laidKinds := [.data, .data, .data, .sentinel, .sentinel], laidTests := true, laidLooks := .later }
def LoadScalarsUptoCardSaid : Prop := Claim7.holds Tryd.pinned (.plain (OpenSpec.upto loadScalarsSpec)) loadScalarsUptoCard

/-- THE SECOND FORM's CARD OF 'claplaw2.PathSteps'. -/
def pathStepsUptoCard : Claim7 := { stood := { row := pathStepsUptoRow, standIns := [], harness := (true, "5dffbc0deecceb2c3425950080d3c00500808b8004be27ed6747c5e540fb116c"), looks := true }, kinds := [], alts := [], laidByText := true, laidKinds := [.data, .data, .data, .sentinel, .sentinel], laidTests := true, laidLooks := .later }
def PathStepsUptoCardSaid : Prop := Claim7.holds Tryd.pinned (.plain (OpenSpec.upto pathStepsSpec)) pathStepsUptoCard

/-- THE SECOND FORM's CARD OF 'claplaw2.FixedChecks'. -/
def fixedChecksUptoCard : Claim7 := { stood := { row := fixedChecksUptoRow, standIns := [], harness := (true, "5dffbc0deecceb2c3425950080d3c00500808b8004be27ed6747c5e540fb116c"), looks := true }, kinds := [], alts := [], laidByText := true, laidKinds := [.data, .data, .data], laidTests := true, laidLooks := .later }
def FixedChecksUptoCardSaid : Prop := Claim7.holds Tryd.pinned (.plain (OpenSpec.upto fixedChecksSpec)) fixedChecksUptoCard
end Rows
end Go.Proofs.YtbmpjppfdeohnaaDoor
