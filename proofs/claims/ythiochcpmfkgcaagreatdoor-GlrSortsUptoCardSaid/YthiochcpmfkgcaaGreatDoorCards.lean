/-
  DERIVED. GIVEN WITH THE SEED: THE CARDS: each row of YthiochcpmfkgcaaGreatDoorRows.lean that lists a variable, with what it lists TIED to the program's text (the seventh form; the later family's looks); each row that meets fmt, with fmt's text TOLD by the authors' own Lean function (tested against real Go, not proved from fmt's source: count such statements apart). THE CARD IS WHAT COUNTS. Prove the row's statement (the work); the ties are given (YthiochcpmfkgcaaGreatDoorTie.lean); close each card by the builder's one call (the guide's Derived/Test/ToyasCard.lean, 'card_holds'). Laid BY PROGRAM, IN A SANDBOX (cutbox-door.mjs). By AI agents, Wed Nov 11 2026. No macro, syntax, notation, axiom, sorry.
-/
import Derived.Test.YthiochcpmfkgcaaGreatDoorRows
import GoSem.ClaimSeven
namespace Go.Proofs.YthiochcpmfkgcaaGreatDoor
namespace Rows

/-- THE TIED CARD OF 'rosettalaw10.GlrRun'. -/
def glrRunCard : Claim7 := { stood := { row := glrRunRow, standIns := [], harness := (true, "ae3ebcaa284d7809cc303aa5caeb34bd58d14d19bfa6917677ebd5363f7b84cb"), looks := true }, kinds := [], alts := [], laidByText := true, laidKinds := [.data, .data, .data], laidTests := true, laidLooks := .later }
def GlrRunCardSaid : Prop := Claim7.holds Tryz.pinned (.plain (OpenSpec.ofChange glrRunSpec)) glrRunCard

/-- THE TIED CARD OF 'rosettalaw10.GlrPrefix'. -/
def glrPrefixCard : Claim7 := { stood := { row := glrPrefixRow, standIns := [], harness := (true, "ae3ebcaa284d7809cc303aa5caeb34bd58d14d19bfa6917677ebd5363f7b84cb"), looks := true }, kinds := [], alts := [], laidByText := true, laidKinds := [.data, .data, .data], laidTests := true, laidLooks := .later }
def GlrPrefixCardSaid : Prop := Claim7.holds Tryz.pinned (.plain (OpenSpec.ofChange glrPrefixSpec)) glrPrefixCard

/-- THE TIED CARD OF 'rosettalaw10.GlrLong'. -/
def glrLongCard : Claim7 := { stood := { row := glrLongRow, standIns := [], harness := (true, "ae3ebcaa284d7809cc303aa5caeb34bd58d14d19bfa6917677ebd5363f7b84cb"), looks := true }, kinds := [], alts := [], laidByText := true, laidKinds := [.data, .data, .data], laidTests := true, laidLooks := .later }
def GlrLongCardSaid : Prop := Claim7.holds Tryz.pinned (.plain (OpenSpec.ofChange glrLongSpec)) glrLongCard

/-- THE TIED CARD OF 'rosettalaw10.GlrParts'. -/
def glrPartsCard : Claim7 := { stood := { row := glrPartsRow, standIns := [], harness := (true, "ae3ebcaa284d7809cc303aa5caeb34bd58d14d19bfa6917677ebd5363f7b84cb"), looks := true }, kinds := [], alts := [], laidByText := true, laidKinds := [.data, .data, .data], laidTests := true, laidLooks := .later }
def GlrPartsCardSaid : Prop := Claim7.holds Tryz.pinned (.plain (OpenSpec.ofChange glrPartsSpec)) glrPartsCard

/-- THE TIED CARD OF 'rosettalaw10.GlrSorts'. -/
def glrSortsCard : Claim7 := { stood := { row := glrSortsRow, standIns := [], harness := (true, "ae3ebcaa284d7809cc303aa5caeb34bd58d14d19bfa6917677ebd5363f7b84cb"), looks := true }, kinds := [], alts := [], laidByText := true, laidKinds := [.data, .data, .data], laidTests := true, laidLooks := .later }
def GlrSortsCardSaid : Prop := Claim7.holds Tryz.pinned (.plain (OpenSpec.ofChange glrSortsSpec)) glrSortsCard

/-- THE TIED CARD OF 'rosettalaw10.GlrBound'. -/
def glrBoundCard : Claim7 := { stood := { row := glrBoundRow, standIns := [], harness := (true, "ae3ebcaa284d7809cc303aa5caeb34bd58d14d19bfa6917677ebd5363f7b84cb"), looks := true }, kinds := [], alts := [], laidByText := true, laidKinds := [.data, .data, .data], laidTests := true, laidLooks := .later }
def GlrBoundCardSaid : Prop := Claim7.holds Tryz.pinned (.plain (OpenSpec.ofChange glrBoundSpec)) glrBoundCard

/-- THE SECOND FORM's CARD OF 'rosettalaw10.GlrRun'. -/
def glrRunUptoCard : Claim7 := { stood := { row := glrRunUptoRow, standIns := [], harness := (true, "ae3ebcaa284d7809cc303aa5caeb34bd58d14d19bfa6917677ebd5363f7b84cb"), looks := true }, kinds := [], alts := [], laidByText := true, laidKinds := [.data, .data, .data], laidTests := true, laidLooks := .later }
def GlrRunUptoCardSaid : Prop := Claim7.holds Tryz.pinned (.plain (OpenSpec.upto glrRunSpec)) glrRunUptoCard

/-- THE SECOND FORM's CARD OF 'rosettalaw10.GlrPrefix'. -/
def glrPrefixUptoCard : Claim7 := { stood := { row := glrPrefixUptoRow, standIns := [], harness := (true, "ae3ebcaa284d7809cc303aa5caeb34bd58d14d19bfa6917677ebd5363f7b84cb"), looks := true }, kinds := [], alts := [], laidByText := true, laidKinds := [.data, .data, .data], laidTests := true, laidLooks := .later }
def GlrPrefixUptoCardSaid : Prop := Claim7.holds Tryz.pinned (.plain (OpenSpec.upto glrPrefixSpec)) glrPrefixUptoCard

/-- THE SECOND FORM's CARD OF 'rosettalaw10.GlrLong'. -/
def glrLongUptoCard : Claim7 := { stood := { row := glrLongUptoRow, standIns := [], harness := (true, "ae3ebcaa284d7809cc303aa5caeb34bd58d14d19bfa6917677ebd5363f7b84cb"), looks := true }, kinds := [], alts := [], laidByText := true, laidKinds := [.data, .data, .data], laidTests := true, laidLooks := .later }
def GlrLongUptoCardSaid : Prop := Claim7.holds Tryz.pinned (.plain (OpenSpec.upto glrLongSpec)) glrLongUptoCard

/-- THE SECOND FORM's CARD OF 'rosettalaw10.GlrParts'. -/
def glrPartsUptoCard : Claim7 := { stood := { row := glrPartsUptoRow, standIns := [], harness := (true, "ae3ebcaa284d7809cc303aa5caeb34bd58d14d19bfa6917677ebd5363f7b84cb"), looks := true }, kinds := [], alts := [], laidByText := true, laidKinds := [.data, .data, .data], laidTests := true, laidLooks := .later }
def GlrPartsUptoCardSaid : Prop := Claim7.holds Tryz.pinned (.plain (OpenSpec.upto glrPartsSpec)) glrPartsUptoCard

/-- THE SECOND FORM's CARD OF 'rosettalaw10.GlrSorts'. -/
def glrSortsUptoCard : Claim7 := { stood := { row := glrSortsUptoRow, standIns := [], harness := (true, "ae3ebcaa284d7809cc303aa5caeb34bd58d14d19bfa6917677ebd5363f7b84cb"), looks := true }, kinds := [], alts := [], laidByText := true, laidKinds := [.data, .data, .data], laidTests := true, laidLooks := .later }
def GlrSortsUptoCardSaid : Prop := Claim7.holds Tryz.pinned (.plain (OpenSpec.upto glrSortsSpec)) glrSortsUptoCard

/-- THE SECOND FORM's CARD OF 'rosettalaw10.GlrBound'. -/
def glrBoundUptoCard : Claim7 := { stood := { row := glrBoundUptoRow, standIns := [], harness := (true, "ae3ebcaa284d7809cc303aa5caeb34bd58d14d19bfa6917677ebd5363f7b84cb"), looks := true }, kinds := [], alts := [], laidByText := true, laidKinds := [.data, .data, .data], laidTests := true, laidLooks := .later }
def GlrBoundUptoCardSaid : Prop := Claim7.holds Tryz.pinned (.plain (OpenSpec.upto glrBoundSpec)) glrBoundUptoCard
end Rows
end Go.Proofs.YthiochcpmfkgcaaGreatDoor
