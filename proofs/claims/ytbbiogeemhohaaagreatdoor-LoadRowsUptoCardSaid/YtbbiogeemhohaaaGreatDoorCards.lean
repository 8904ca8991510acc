/-
  DERIVED. GIVEN WITH THE SEED: THE CARDS: each row of YtbbiogeemhohaaaGreatDoorRows.lean that lists a variable, with what it lists TIED to the program's text (the seventh form; the later family's looks); each row that meets fmt, with fmt's text TOLD by the authors' own Lean function (tested against real Go, not proved from fmt's source: count such statements apart). THE CARD IS WHAT COUNTS. Prove the row's statement (the work); the ties are given (YtbbiogeemhohaaaGreatDoorTie.lean); close each card by the builder's one call (the guide's Derived/Test/ToyasCard.lean, 'card_holds'). Laid BY PROGRAM, IN A SANDBOX (cutbox-door.mjs). By AI agents, Wed Nov 11 2026. No macro, syntax, notation, axiom, sorry.
-/
import Derived.Test.YtbbiogeemhohaaaGreatDoorRows
import GoSem.ClaimSeven
namespace Go.Proofs.YtbbiogeemhohaaaGreatDoor
namespace Rows

/-- THE TIED CARD OF 'claplaw2.LoadOrphans'. -/
def loadOrphansCard : Claim7 := { stood := { row := loadOrphansRow, standIns := [], harness := (true, "84b7f93470f22f350c683829a61f3132d09c68c87480d7741583384ba7e68035"), looks := true }, kinds := [], alts := [], laidByText := true, laidKinds := [.data, .data, .data, .sentinel, .sentinel], laidTests := true, laidLooks := .later }
def LoadOrphansCardSaid : Prop := Claim7.holds Tryz.pinned (.plain (OpenSpec.ofChange loadOrphansSpec)) loadOrphansCard

/-- THE TIED CARD OF 'claplaw2.LoadRows'. -/
def loadRowsCard : Claim7 := { stood := { row := loadRowsRow, standIns := [], harness := (true, "84b7f93470f22f350c683829a61f3132d09c68c87480d7741583384ba7e68035"), looks := true }, kinds := [], alts := [], laidByText := true, laidKinds := [.data, .data, .data, .sentinel, .sentinel], laidTests := true, laidLooks := .later }
def LoadRowsCardSaid : Prop := Claim7.holds Tryz.pinned (.plain (OpenSpec.ofChange loadRowsSpec)) loadRowsCard

/-- THE SECOND FORM's CARD OF 'claplaw2.LoadOrphans'. -/
def loadOrphansUptoCard : Claim7 := { stood := { row := loadOrphansUptoRow, standIns := [], harness := (true, "84b7f93470f22f350c683829a61f3132d09c68c87480d7741583384ba7e68035"), looks := true }, kinds := [], alts := [], laidByText := true, laidKinds := [.data, .data, .data, .sentinel, .sentinel], laidTests := true, laidLooks := .later }
def LoadOrphansUptoCardSaid : Prop := Claim7.holds Tryz.pinned (.plain (OpenSpec.upto loadOrphansSpec)) loadOrphansUptoCard

/-- THE SECOND FORM's CARD OF 'claplaw2.LoadRows'. -/
def loadRowsUptoCard : Claim7 := { stood := { row := loadRowsUptoRow, standIns := [], harness := (true, "84b7f93470f22f350c683829a61f3132d09c68c87480d7741583384ba7e68035"), looks := true }, kinds := [], alts := [], laidByText := true, laidKinds := [.data, .data, .data, .sentinel, .sentinel], laidTests := true, laidLooks := .later }
def LoadRowsUptoCardSaid : Prop := Claim7.holds Tryz.pinned (.plain (OpenSpec.upto loadRowsSpec)) loadRowsUptoCard
end Rows
end Go.Proofs.YtbbiogeemhohaaaGreatDoor
