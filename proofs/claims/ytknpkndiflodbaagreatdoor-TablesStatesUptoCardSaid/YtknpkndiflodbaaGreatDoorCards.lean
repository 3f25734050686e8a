/-
  DERIVED. GIVEN WITH THE SEED: THE CARDS: each row of YtknpkndiflodbaaGreatDoorRows.lean that lists a variable, with what it lists TIED to the program's text (the seventh form; the later family's looks); each row that meets fmt, with fmt's text TOLD by the authors' own Lean function (tested against real Go, not proved from fmt's source: count such statements apart). THE CARD IS WHAT COUNTS. Prove the row's statement (the work); the ties are given (YtknpkndiflodbaaGreatDoorTie.lean); close each card by the builder's one call (the guide's Derived/Test/ToyasCard.lean, 'card_holds'). Laid BY PROGRAM, IN A SANDBOX (cutbox-door.mjs). By AI agents, Wed Nov 11 2026. No macro, syntax, notation, axiom, sorry.
-/
import Derived.Test.YtknpkndiflodbaaGreatDoorRows
import GoSem.ClaimSeven
namespace Go.Proofs.YtknpkndiflodbaaGreatDoor
namespace Rows

/-- THE TIED CARD OF 'rosettalaw09.TablesLong'. -/
def tablesLongCard : Claim7 := { stood := { row := tablesLongRow, standIns := [], harness := (true, "94ba3d905ad01b8de5f0fa93bb66b8f1cad378b9b7ffa9caefb216772cc0b605"), looks := true }, kinds := [], alts := [], laidByText := true, laidKinds := [.data, .data, .data], laidTests := true, laidLooks := .later }
def TablesLongCardSaid : Prop := Claim7.holds Tryz.pinned (.plain (OpenSpec.ofChange tablesLongSpec)) tablesLongCard

/-- THE TIED CARD OF 'rosettalaw09.TablesItems'. -/
def tablesItemsCard : Claim7 := { stood := { row := tablesItemsRow, standIns := [], harness := (true, "94ba3d905ad01b8de5f0fa93bb66b8f1cad378b9b7ffa9caefb216772cc0b605"), looks := true }, kinds := [], alts := [], laidByText := true, laidKinds := [.data, .data, .data], laidTests := true, laidLooks := .later }
def TablesItemsCardSaid : Prop := Claim7.holds Tryz.pinned (.plain (OpenSpec.ofChange tablesItemsSpec)) tablesItemsCard

/-- THE TIED CARD OF 'rosettalaw09.TablesStates'. -/
def tablesStatesCard : Claim7 := { stood := { row := tablesStatesRow, standIns := [], harness := (true, "94ba3d905ad01b8de5f0fa93bb66b8f1cad378b9b7ffa9caefb216772cc0b605"), looks := true }, kinds := [], alts := [], laidByText := true, laidKinds := [.data, .data, .data], laidTests := true, laidLooks := .later }
def TablesStatesCardSaid : Prop := Claim7.holds Tryz.pinned (.plain (OpenSpec.ofChange tablesStatesSpec)) tablesStatesCard

/-- THE TIED CARD OF 'rosettalaw09.TablesReads'. -/
def tablesReadsCard : Claim7 := { stood := { row := tablesReadsRow, standIns := [], harness := (true, "94ba3d905ad01b8de5f0fa93bb66b8f1cad378b9b7ffa9caefb216772cc0b605"), looks := true }, kinds := [], alts := [], laidByText := true, laidKinds := [.data, .data, .data], laidTests := true, laidLooks := .later }
def TablesReadsCardSaid : Prop := Claim7.holds Tryz.pinned (.plain (OpenSpec.ofChange tablesReadsSpec)) tablesReadsCard

/-- THE TIED CARD OF 'rosettalaw09.TablesRuns'. -/
def tablesRunsCard : Claim7 := { stood := { row := tablesRunsRow, standIns := [], harness := (true, "94ba3d905ad01b8de5f0fa93bb66b8f1cad378b9b7ffa9caefb216772cc0b605"), looks := true }, kinds := [], alts := [], laidByText := true, laidKinds := [.data, .data, .data], laidTests := true, laidLooks := .later }
def TablesRunsCardSaid : Prop := Claim7.holds Tryz.pinned (.plain (OpenSpec.ofChange tablesRunsSpec)) tablesRunsCard

/-- THE SECOND FORM's CARD OF 'rosettalaw09.TablesLong'. -/
def tablesLongUptoCard : Claim7 := { stood := { row := tablesLongUptoRow, standIns := [], harness := (true, "94ba3d905ad01b8de5f0fa93bb66b8f1cad378b9b7ffa9caefb216772cc0b605"), looks := true }, kinds := [], alts := [], laidByText := true, laidKinds := [.data, .data, .data], laidTests := true, laidLooks := .later }
def TablesLongUptoCardSaid : Prop := Claim7.holds Tryz.pinned (.plain (OpenSpec.upto tablesLongSpec)) tablesLongUptoCard

/-- THE SECOND FORM's CARD OF 'rosettalaw09.TablesItems'. -/
def tablesItemsUptoCard : Claim7 := { stood := { row := tablesItemsUptoRow, standIns := [], harness := (true, "94ba3d905ad01b8de5f0fa93bb66b8f1cad378b9b7ffa9caefb216772cc0b605"), looks := true }, kinds := [], alts := [], laidByText := true, laidKinds := [.data, .data, .data], laidTests := true, laidLooks := .later }
def TablesItemsUptoCardSaid : Prop := Claim7.holds Tryz.pinned (.plain (OpenSpec.upto tablesItemsSpec)) tablesItemsUptoCard

/-- THE SECOND FORM's CARD OF 'rosettalaw09.TablesStates'. -/
def tablesStatesUptoCard : Claim7 := { stood := { row := tablesStatesUptoRow, standIns := [], harness := (true, "94ba3d905ad01b8de5f0fa93bb66b8f1cad378b9b7ffa9caefb216772cc0b605"), looks := true }, kinds := [], alts := [], laidByText := true, laidKinds := [.data, .data, .data], laidTests := true, laidLooks := .later }
def TablesStatesUptoCardSaid : Prop := Claim7.holds Tryz.pinned (.plain (OpenSpec.upto tablesStatesSpec)) tablesStatesUptoCard

/-- THE SECOND FORM's CARD OF 'rosettalaw09.TablesReads'. -/
def tablesReadsUptoCard : Claim7 := { stood := { row := tablesReadsUptoRow, standIns := [], harness := (true, "94ba3d905ad01b8de5f0fa93bb66b8f1cad378b9b7ffa9caefb216772cc0b605"), looks := true }, kinds := [], alts := [], laidByText := true, laidKinds := [.data, .data, .data], laidTests := true, laidLooks := .later }
def TablesReadsUptoCardSaid : Prop := Claim7.holds Tryz.pinned (.plain (OpenSpec.upto tablesReadsSpec)) tablesReadsUptoCard

/-- THE SECOND FORM's CARD OF 'rosettalaw09.TablesRuns'. -/
def tablesRunsUptoCard : Claim7 := { stood := { row := tablesRunsUptoRow, standIns := [], harness := (true, "94ba3d905ad01b8de5f0fa93bb66b8f1cad378b9b7ffa9caefb216772cc0b605"), looks := true }, kinds := [], alts := [], laidByText := true, laidKinds := [.data, .data, .data], laidTests := true, laidLooks := .later }
def TablesRunsUptoCardSaid : Prop := Claim7.holds Tryz.pinned (.plain (OpenSpec.upto tablesRunsSpec)) tablesRunsUptoCard
end Rows
end Go.Proofs.YtknpkndiflodbaaGreatDoor
