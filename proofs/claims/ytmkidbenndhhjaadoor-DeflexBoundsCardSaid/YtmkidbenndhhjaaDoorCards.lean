/-
  DERIVED. GIVEN WITH THE SEED: THE CARDS: each row of YtmkidbenndhhjaaDoorRows.lean that lists a variable, with what it lists TIED to the program's text (the seventh form; the later family's looks); each row that meets fmt, with fmt's text TOLD by the authors' own Lean function (tested against real Go, not proved from fmt's source: count such statements apart). THE CARD IS WHAT COUNTS. Prove the row's statement (the work); the ties are given (YtmkidbenndhhjaaDoorTie.lean); close each card by the builder's one call (the guide's Derived/Test/ToyasCard.lean, 'card_holds'). Laid BY PROGRAM, IN A SANDBOX (cutbox-door.mjs). By AI agents, Wed Nov 11 2026. No macro, syntax, notation, axiom, sorry.
-/
import Derived.Test.YtmkidbenndhhjaaDoorRows
import GoSem.ClaimSeven
namespace Go.Proofs.YtmkidbenndhhjaaDoor
namespace Rows

/-- THE TIED CARD OF 'rosettalaw22.LangsTexts'. -/
def langsTextsCard : Claim7 := { stood := { row := langsTextsRow, standIns := [], harness := (true, "ab584c80039b6c3bd351da222beafcf159cabbc63d1a9231c39ef0d1c7f3299b"), looks := true }, kinds := [], alts := [], laidByText := true, laidKinds := [.listed, .data], laidTests := true, laidLooks := .later }
def LangsTextsCardSaid : Prop := Claim7.holds Tryd.pinned (.plain (OpenSpec.ofChange langsTextsSpec)) langsTextsCard

/-- THE TIED CARD OF 'rosettalaw03.DeflexQuotes'. -/
def deflexQuotesCard : Claim7 := { stood := { row := deflexQuotesRow, standIns := [], harness := (true, "ab584c80039b6c3bd351da222beafcf159cabbc63d1a9231c39ef0d1c7f3299b"), looks := true }, kinds := [], alts := [], laidByText := true, laidKinds := [.data, .data, .data, .sentinel, .sentinel], laidTests := true, laidLooks := .later }
def DeflexQuotesCardSaid : Prop := Claim7.holds Tryd.pinned (.plain (OpenSpec.ofChange deflexQuotesSpec)) deflexQuotesCard

/-- THE TIED CARD OF 'rosettalaw03.DeflexBounds'. -/
def deflexBoundsCard : Claim7 := { stood := { row := deflexBoundsRow, standIns := [], harness := (true, "ab584c80039b6c3bd351da222beafcf159cabbc63d1a9231c39ef0d1c7f3299b"), looks := true }, kinds := [], alts := [], laidByText := true, laidKinds := [.data, .data, .data, .sentinel, .sentinel], laidTests := true, laidLooks := .later }
def DeflexBoundsCardSaid : Prop := Claim7.holds Tryd.pinned (.plain (OpenSpec.ofChange deflexBoundsSpec)) deflexBoundsCard

/-- THE TIED CARD OF 'rosettalaw03.DeflexJoin'. -/
def deflexJoinCard : Claim7 := { stood := { row := deflexJoinRow, standIns := [], harness := (true, "ab584c80039b6c3bd351da222beafcf159cabbc63d1a9231c39ef0d1c7f3299b"), looks := true }, kinds := [], alts := [], laidByText := true, laidKinds := [.data, .data, .data, .sentinel, .sentinel], laidTests := true, laidLooks := .later }
def DeflexJoinCardSaid : Prop := Claim7.holds Tryd.pinned (.plain (OpenSpec.ofChange deflexJoinSpec)) deflexJoinCard

/-- THE TIED CARD OF 'rosettalaw03.DeflexBack'. -/
def deflexBackCard : Claim7 := { stood := { row := deflexBackRow, standIns := [], harness := (true, "ab584c80039b6c3bd351da222beafcf159cabbc63d1a9231c39ef0d1c7f3299b"), looks := true }, kinds := [], alts := [], laidByText := true, laidKinds := [.data, .data, .data, .sentinel, .sentinel], laidTests := true, laidLooks := .later }
def DeflexBackCardSaid : Prop := Claim7.holds Tryd.pinned (.plain (OpenSpec.ofChange deflexBackSpec)) deflexBackCard

/-- THE TIED CARD OF 'rosettalaw03.DeflexGaps'. -/
def deflexGapsCard : Claim7 := { stood := { row := deflexGapsRow, standIns := [], harness := (true, "ab584c80039b6c3bd351da222beafcf159cabbc63d1a9231c39ef0d1c7f3299b"), looks := true }, kinds := [], alts := [], laidByText := true, laidKinds := [.data, .data, .data, .sentinel, .sentinel], laidTests := true, laidLooks := .later }
def DeflexGapsCardSaid : Prop := Claim7.holds Tryd.pinned (.plain (OpenSpec.ofChange deflexGapsSpec)) deflexGapsCard

/-- THE SECOND FORM's CARD OF 'rosettalaw22.LangsTexts'. -/
def langsTextsUptoCard : Claim7 := { stood := { row := langsTextsUptoRow, standIns := [], harness := (true, "ab584c80039b6c3bd351da222beafcf159cabbc63d1a9231c39ef0d1c7f3299b"), looks := true }, kinds := [], alts := [], laidByText := true, laidKinds := [.listed, .data], laidTests := true, laidLooks := .later }
def LangsTextsUptoCardSaid : Prop := Claim7.holds Tryd.pinned (.plain (OpenSpec.upto langsTextsSpec)) langsTextsUptoCard

/-- THE SECOND FORM's CARD OF 'rosettalaw03.DeflexQuotes'. -/
def deflexQuotesUptoCard : Claim7 := { stood := { row := deflexQuotesUptoRow, standIns := [], harness := (true, "ab584c80039b6c3bd351da222beafcf159cabbc63d1a9231c39ef0d1c7f3299b"), looks := true }, kinds := [], alts := [], laidByText := true, laidKinds := [.data, .data, .data, .sentinel, .sentinel], laidTests := true, laidLooks := .later }
def DeflexQuotesUptoCardSaid : Prop := Claim7.holds Tryd.pinned (.plain (OpenSpec.upto deflexQuotesSpec)) deflexQuotesUptoCard

/-- THE SECOND FORM's CARD OF 'rosettalaw03.DeflexBounds'. -/
def deflexBoundsUptoCard : Claim7 := { stood := { row := deflexBoundsUptoRow, standIns := [], harness := (true, "ab584c80039b6c3bd351da222beafcf159cabbc63d1a9231c39ef0d1c7f3299b"), looks := true }, kinds := [], alts := [], laidByText := true, laidKinds := [.data, .data, .data, .sentinel, .sentinel], laidTests := true, laidLooks := .later }
def DeflexBoundsUptoCardSaid : Prop := Claim7.holds Tryd.pinned (.plain (OpenSpec.upto deflexBoundsSpec)) deflexBoundsUptoCard

/-- THE SECOND FORM's CARD OF 'rosettalaw03.DeflexJoin'. -/
def deflexJoinUptoCard : Claim7 := { stood := { row := deflexJoinUptoRow, standIns := [], harness := (true, "ab584c80039b6c3bd351da222beafcf159cabbc63d1a9231c39ef0d1c7f3299b"), looks := true }, kinds := [], alts := [], laidByText := true, laidKinds := [.data, .data, .data, .sentinel, .sentinel], laidTests := true, laidLooks := .later }
def DeflexJoinUptoCardSaid : Prop := Claim7.holds Tryd.pinned (.plain (OpenSpec.upto deflexJoinSpec)) deflexJoinUptoCard

/-- THE SECOND FORM's CARD OF 'rosettalaw03.DeflexBack'. -/
def deflexBackUptoCard : Claim7 := { stood := { row := deflexBackUptoRow, standIns := [], harness := (true, "ab584c80039b6c3bd351da222beafcf159cabbc63d1a9231c39ef0d1c7f3299b"), looks := true }, kinds := [], alts := [], laidByText := true, laidKinds := [.data, .data, .data, .sentinel, .sentinel], laidTests := true, laidLooks := .later }
def DeflexBackUptoCardSaid : Prop := Claim7.holds Tryd.pinned (.plain (OpenSpec.upto deflexBackSpec)) deflexBackUptoCard

/-- THE SECOND FORM's CARD OF 'rosettalaw03.DeflexGaps'. -/
def deflexGapsUptoCard : Claim7 := { stood := { row := deflexGapsUptoRow, standIns := [], harness := (true, "ab584c80039b6c3bd351da222beafcf159cabbc63d1a9231c39ef0d1c7f3299b"), looks := true }, kinds := [], alts := [], laidByText := true, laidKinds := [.data, .data, .data, .sentinel, .sentinel], laidTests := true, laidLooks := .later }
def DeflexGapsUptoCardSaid : Prop := Claim7.holds Tryd.pinned (.plain (OpenSpec.upto deflexGapsSpec)) deflexGapsUptoCard
end Rows
end Go.Proofs.YtmkidbenndhhjaaDoor
