/-
  DERIVED. GIVEN WITH THE SEED: THE CARDS: each row of YtacgnbelcpmjfaaGreatDoorRows.lean that lists a variable, with what it lists TIED to the program's text (the seventh form; the later family's looks); each row that meets fmt, with fmt's text TOLD by the authors' own Lean function (tested against real Go, not proved from fmt's source: count such statements apart). THE CARD IS WHAT COUNTS. Prove the row's statement (the work); the ties are given (YtacgnbelcpmjfaaGreatDoorTie.lean); close each card by the builder's one call (the guide's Derived/Test/ToyasCard.lean, 'card_holds'). Laid BY PROGRAM, IN A SANDBOX (cutbox-door.mjs). By AI agents, Wed Nov 11 2026. No macro, syntax, notation, axiom, sorry.
-/
import Derived.Test.YtacgnbelcpmjfaaGreatDoorRows
import GoSem.ClaimSeven
namespace Go.Proofs.YtacgnbelcpmjfaaGreatDoor
namespace Rows

/-- THE TIED CARD OF 'rosettalaw03.DeflexTexts'. -/
def deflexTextsCard : Claim7 := { stood := { row := deflexTextsRow, standIns := [], harness := (true, "bafe45bbd0a3b0cf1e37beaad12a9d26844c078ed9d08036dc6a94a52d832763"), looks := true }, kinds := [], alts := [], laidByText := true, laidKinds := [.data, .data, .data, .sentinel, .sentinel], laidTests := true, laidLooks := .later }
def DeflexTextsCardSaid : Prop := Claim7.holds Tryz.pinned (.plain (OpenSpec.ofChange deflexTextsSpec)) deflexTextsCard

/-- THE TIED CARD OF 'rosettalaw03.DeflexPrints'. -/
def deflexPrintsCard : Claim7 := { stood := { row := deflexPrintsRow, standIns := [], harness := (true, "bafe45bbd0a3b0cf1e37beaad12a9d26844c078ed9d08036dc6a94a52d832763"), looks := true }, kinds := [], alts := [], laidByText := true, laidKinds := [.data, .data, .data, .sentinel, .sentinel], laidTests := true, laidLooks := .later }
def DeflexPrintsCardSaid : Prop := Claim7.holds Tryz.pinned (.plain (OpenSpec.ofChange deflexPrintsSpec)) deflexPrintsCard

/-- THE SECOND FORM's CARD OF 'rosettalaw03.DeflexTexts'. -/
def deflexTextsUptoCard : Claim7 := { stood := { row := deflexTextsUptoRow, standIns := [], harness := (true, "bafe45bbd0a3b0cf1e37beaad12a9d26844c078ed9d08036dc6a94a52d832763"), looks := true }, kinds := [], alts := [], laidByText := true, laidKinds := [.data, .data, .data, .sentinel, .sentinel], laidTests := true, laidLooks := .later }
def DeflexTextsUptoCardSaid : Prop := Claim7.holds Tryz.pinned (.plain (OpenSpec.upto deflexTextsSpec)) deflexTextsUptoCard

/-- THE SECOND FORM's CARD OF 'rosettalaw03.DeflexPrints'. -/
def deflexPrintsUptoCard : Claim7 := { stood := { row := deflexPrintsUptoRow, standIns := [], harness := (true, "bafe45bbd0a3b0cf1e37beaad12a9d26844c078ed9d08036dc6a94a52d832763"), looks := true }, kinds := [], alts := [], laidByText := true, laidKinds := [.data, .data, .data, .sentinel, .sentinel], laidTests := true, laidLooks := .later }
def DeflexPrintsUptoCardSaid : Prop := Claim7.holds Tryz.pinned (.plain (OpenSpec.upto deflexPrintsSpec)) deflexPrintsUptoCard
end Rows
end Go.Proofs.YtacgnbelcpmjfaaGreatDoor
