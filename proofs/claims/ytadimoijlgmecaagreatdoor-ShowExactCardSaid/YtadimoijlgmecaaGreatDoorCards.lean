/-
  DERIVED. GIVEN WITH THE SEED: THE CARDS: each row of YtadimoijlgmecaaGreatDoorRows.lean that lists a variable, with what it lists TIED to the program's text (the seventh form; the later family's looks); each row that meets fmt, with fmt's text TOLD by the authors' own Lean function (tested against real Go, not proved from fmt's source: count such statements apart). THE CARD IS WHAT COUNTS. Prove the row's statement (the work); the ties are given (YtadimoijlgmecaaGreatDoorTie.lean); close each card by the builder's one call (the guide's Derived/Test/ToyasCard.lean, 'card_holds'). Laid BY PROGRAM, IN A SANDBOX (cutbox-door.mjs). By AI agents, Wed Nov 11 2026. No macro, syntax, notation, axiom, sorry.
-/
import Derived.Test.YtadimoijlgmecaaGreatDoorRows
import GoSem.ClaimSeven
namespace Go.Proofs.YtadimoijlgmecaaGreatDoor
namespace Rows

/-- THE TIED CARD OF 'delverlaw03.ShowExact'. -/
def showExactCard : Claim7 := { stood := { row := showExactRow, standIns := [], harness := (true, "d6f113aa70d9b9bfd43650c05849f2153502227f942806db29ed0fcfd8590f89"), looks := true }, kinds := [], alts := [], laidByText := true, laidKinds := [.data, .data, .data, .listed, .data], laidTests := true, laidLooks := .later }
def ShowExactCardSaid : Prop := Claim7.holds Tryz.pinned (.plain (OpenSpec.ofChange showExactSpec)) showExactCard

/-- THE TIED CARD OF 'delverlaw03.ShowBent'. -/
def showBentCard : Claim7 := { stood := { row := showBentRow, standIns := [], harness := (true, "d6f113aa70d9b9bfd43650c05849f2153502227f942806db29ed0fcfd8590f89"), looks := true }, kinds := [], alts := [], laidByText := true, laidKinds := [.data, .data, .data, .listed, .data], laidTests := true, laidLooks := .later }
def ShowBentCardSaid : Prop := Claim7.holds Tryz.pinned (.plain (OpenSpec.ofChange showBentSpec)) showBentCard

/-- THE TIED CARD OF 'delverlaw03.ShowLines'. -/
def showLinesCard : Claim7 := { stood := { row := showLinesRow, standIns := [], harness := (true, "d6f113aa70d9b9bfd43650c05849f2153502227f942806db29ed0fcfd8590f89"), looks := true }, kinds := [], alts := [], laidByText := true, laidKinds := [.data, .data, .data, .listed, .data], laidTests := true, laidLooks := .later }
def ShowLinesCardSaid : Prop := Claim7.holds Tryz.pinned (.plain (OpenSpec.ofChange showLinesSpec)) showLinesCard

/-- THE TIED CARD OF 'delverlaw03.ShowBack'. -/
def showBackCard : Claim7 := { stood := { row := showBackRow, standIns := [], harness := (true, "d6f113aa70d9b9bfd43650c05849f2153502227f942806db29ed0fcfd8590f89"), looks := true }, kinds := [], alts := [], laidByText := true, laidKinds := [.data, .data, .data, .sentinel, .sentinel, .listed, .data], laidTests := true, laidLooks := .later }
def ShowBackCardSaid : Prop := Claim7.holds Tryz.pinned (.plain (OpenSpec.ofChange showBackSpec)) showBackCard

/-- THE TIED CARD OF 'delverlaw03.ShowParsed'. -/
def showParsedCard : Claim7 := { stood := { row := showParsedRow, standIns := [], harness := (true, "d6f113aa70d9b9bfd43650c05849f2153502227f942806db29ed0fcfd8590f89"), looks := true }, kinds := [], alts := [], laidByText := true, laidKinds := [.data, .data, .data, .sentinel, .sentinel, .listed, .data], laidTests := true, laidLooks := .later }
def ShowParsedCardSaid : Prop := Claim7.holds Tryz.pinned (.plain (OpenSpec.ofChange showParsedSpec)) showParsedCard

/-- THE SECOND FORM's CARD OF 'delverlaw03.ShowExact'. -/
def showExactUptoCard : Claim7 := { stood := { row := showExactUptoRow, standIns := [], harness := (true, "d6f113aa70d9b9bfd43650c05849f2153502227f942806db29ed0fcfd8590f89"), looks := true }, kinds := [], alts := [], laidByText := true, laidKinds := [.data, .data, .data, .listed, .data], laidTests := true, laidLooks := .later }
def ShowExactUptoCardSaid : Prop := Claim7.holds Tryz.pinned (.plain (OpenSpec.upto showExactSpec)) showExactUptoCard

/-- THE SECOND FORM's CARD OF 'delverlaw03.ShowBent'. -/
def showBentUptoCard : Claim7 := { stood := { row := showBentUptoRow, standIns := [], harness := (true, "d6f113aa70d9b9bfd43650c05849f2153502227f942806db29ed0fcfd8590f89"), looks := true }, kinds := [], alts := [], laidByText := true, laidKinds := [.data, .data, .data, .listed, .data], laidTests := true, laidLooks := .later }
def ShowBentUptoCardSaid : Prop := Claim7.holds Tryz.pinned (.plain (OpenSpec.upto showBentSpec)) showBentUptoCard

/-- THE SECOND FORM's CARD OF 'delverlaw03.ShowLines'. -/
def showLinesUptoCard : Claim7 := { stood := { row := showLinesUptoRow, standIns := [], harness := (true, "d6f113aa70d9b9bfd43650c05849f2153502227f942806db29ed0fcfd8590f89"), looks := true }, kinds := [], alts := [], laidByText := true, laidKinds := [.data, .data, .data, .listed, .data], laidTests := true, laidLooks := .later }
def ShowLinesUptoCardSaid : Prop := Claim7.holds Tryz.pinned (.plain (OpenSpec.upto showLinesSpec)) showLinesUptoCard

/-- THE SECOND FORM's CARD OF 'delverlaw03.ShowBack'. -/
def showBackUptoCard : Claim7 := { stood := { row := showBackUptoRow, standIns := [], harness := (true, "d6f113aa70d9b9bfd43650c05849f2153502227f942806db29ed0fcfd8590f89"), looks := true }, kinds := [], alts := [], laidByText := true, laidKinds := [.data, .data, .data, .sentinel, .sentinel, .listed, .data], laidTests := true, laidLooks := .later }
def ShowBackUptoCardSaid : Prop := Claim7.holds Tryz.pinned (.plain (OpenSpec.upto showBackSpec)) showBackUptoCard

/-- THE SECOND FORM's CARD OF 'delverlaw03.ShowParsed'. -/
def showParsedUptoCard : Claim7 := { stood := { row := showParsedUptoRow, standIns := [], harness := (true, "d6f113aa70d9b9bfd43650c05849f2153502227f942806db29ed0fcfd8590f89"), looks := true }, kinds := [], alts := [], laidByText := true, laidKinds := [.data, .data, .data, .sentinel, .sentinel, .listed, .data], laidTests := true, laidLooks := .later }
def ShowParsedUptoCardSaid : Prop := Claim7.holds Tryz.pinned (.plain (OpenSpec.upto showParsedSpec)) showParsedUptoCard
end Rows
end Go.Proofs.YtadimoijlgmecaaGreatDoor
