/-
  DERIVED. GIVEN WITH THE SEED: THE CARDS: each row of YtjbpgfcoeaapjaaDoorRows.lean that lists a variable, with what it lists TIED to the program's text (the seventh form; the later family's looks); each row that meets fmt, with fmt's text TOLD by the authors' own Lean function (tested against real Go, not proved from fmt's source: count such statements apart). THE CARD IS WHAT COUNTS. Prove the row's statement (the work); the ties are given (YtjbpgfcoeaapjaaDoorTie.lean); close each card by the builder's one call (the guide's Derived/Test/ToyasCard.lean, 'card_holds'). Laid BY PROGRAM, IN A SANDBOX (cutbox-door.mjs). By AI agents, Wed Nov 11 2026. No macro, syntax, notation, axiom, sorry.
-/
import Derived.Test.YtjbpgfcoeaapjaaDoorRows
import GoSem.ClaimSeven
namespace Go.Proofs.YtjbpgfcoeaapjaaDoor
namespace Rows

/-- THE TIED CARD OF 'delverlaw01.LexNums'. -/
def lexNumsCard : Claim7 := { stood := { row := lexNumsRow, standIns := [], harness := (true, "7ba9d4a5c8e86810ece967d7de7b7721407bf13a985b870969b9d0955bacbe99"), looks := true }, kinds := [], alts := [], laidByText := true, laidKinds := [.data, .data, .data, .sentinel, .sentinel], laidTests := true, laidLooks := .later }
def LexNumsCardSaid : Prop := Claim7.holds Tryd.pinned (.plain (OpenSpec.ofChange lexNumsSpec)) lexNumsCard

/-- THE TIED CARD OF 'delverlaw01.LexPlaces'. -/
def lexPlacesCard : Claim7 := { stood := { row := lexPlacesRow, standIns := [], harness := (true, "7ba9d4a5c8e86810ece967d7de7b7721407bf13a985b870969b9d0955bacbe99"), looks := true }, kinds := [], alts := [], laidByText := true, laidKinds := [.data, .data, .data, .sentinel, .sentinel], laidTests := true, laidLooks := .later }
def LexPlacesCardSaid : Prop := Claim7.holds Tryd.pinned (.plain (OpenSpec.ofChange lexPlacesSpec)) lexPlacesCard

/-- THE TIED CARD OF 'delverlaw01.LexNames'. -/
def lexNamesCard : Claim7 := { stood := { row := lexNamesRow, standIns := [], harness := (true, "7ba9d4a5c8e86810ece967d7de7b7721407bf13a985b870969b9d0955bacbe99"), looks := true }, kinds := [], alts := [], laidByText := true, laidKinds := [.data, .data, .data, .sentinel, .sentinel], laidTests := true, laidLooks := .later }
def LexNamesCardSaid : Prop := Claim7.holds Tryd.pinned (.plain (OpenSpec.ofChange lexNamesSpec)) lexNamesCard

/-- THE TIED CARD OF 'delverlaw01.LexEdges'. -/
def lexEdgesCard : Claim7 := { stood := { row := lexEdgesRow, standIns := [], harness := (true, "7ba9d4a5c8e86810ece967d7de7b7721407bf13a985b870969b9d0955bacbe99"), looks := true }, kinds := [], alts := [], laidByText := true, laidKinds := [.data, .data, .data, .sentinel, .sentinel], laidTests := true, laidLooks := .later }
def LexEdgesCardSaid : Prop := Claim7.holds Tryd.pinned (.plain (OpenSpec.ofChange lexEdgesSpec)) lexEdgesCard

/-- THE TIED CARD OF 'delverlaw01.LexExact'. -/
def lexExactCard : Claim7 := { stood := { row := lexExactRow, standIns := [], harness := (true, "7ba9d4a5c8e86810ece967d7de7b7721407bf13a985b870969b9d0955bacbe99"), looks := true }, kinds := [], alts := [], laidByText := true, laidKinds := [.data, .data, .data, .sentinel, .sentinel], laidTests := true, laidLooks := .later }
def LexExactCardSaid : Prop := Claim7.holds Tryd.pinned (.plain (OpenSpec.ofChange lexExactSpec)) lexExactCard

/-- THE TIED CARD OF 'delverlaw01.LexBack'. -/
def lexBackCard : Claim7 := { stood := { row := lexBackRow, standIns := [], harness := (true, "7ba9d4a5c8e86810ece967d7de7b7721407bf13a985b870969b9d0955bacbe99"), looks := true }, kinds := [], alts := [], laidByText := true, laidKinds := [.data, .data, .data, .sentinel, .sentinel], laidTests := true, laidLooks := .later }
def LexBackCardSaid : Prop := Claim7.holds Tryd.pinned (.plain (OpenSpec.ofChange lexBackSpec)) lexBackCard

/-- THE TIED CARD OF 'delverlaw01.LexBlanks'. -/
def lexBlanksCard : Claim7 := { stood := { row := lexBlanksRow, standIns := [], harness := (true, "7ba9d4a5c8e86810ece967d7de7b7721407bf13a985b870969b9d0955bacbe99"), looks := true }, kinds := [], alts := [], laidByText := true, laidKinds := [.data, .data, .data, .sentinel, .sentinel], laidTests := true, laidLooks := .later }
def LexBlanksCardSaid : Prop := Claim7.holds Tryd.pinned (.plain (OpenSpec.ofChange lexBlanksSpec)) lexBlanksCard

/-- THE TIED CARD OF 'delverlaw01.LexFirst'. -/
def lexFirstCard : Claim7 := { stood := { row := lexFirstRow, standIns := [], harness := (true, "7ba9d4a5c8e86810ece967d7de7b7721407bf13a985b870969b9d0955bacbe99"), looks := true }, kinds := [], alts := [], laidByText := true, laidKinds := [.data, .data, .data, .sentinel, .sentinel], laidTests := true, laidLooks := .later }
def LexFirstCardSaid : Prop := Claim7.holds Tryd.pinned (.plain (OpenSpec.ofChange lexFirstSpec)) lexFirstCard

/-- THE TIED CARD OF 'delverlaw01.LexTwo'. -/
def lexTwoCard : Claim7 := { stood := { row := lexTwoRow, standIns := [], harness := (true, "7ba9d4a5c8e86810ece967d7de7b7721407bf13a985b870969b9d0955bacbe99"), looks := true }, kinds := [], alts := [], laidByText := true, laidKinds := [.data, .data, .data, .sentinel, .sentinel], laidTests := true, laidLooks := .later }
def LexTwoCardSaid : Prop := Claim7.holds Tryd.pinned (.plain (OpenSpec.ofChange lexTwoSpec)) lexTwoCard

/-- THE SECOND FORM's CARD OF 'delverlaw01.LexNums'. -/
def lexNumsUptoCard : Claim7 := { stood := { row := lexNumsUptoRow, standIns := [], harness := (true, "7ba9d4a5c8e86810ece967d7de7b7721407bf13a985b870969b9d0955bacbe99"), looks := true }, kinds := [], alts := [], laidByText := true, laidKinds := [.data, .data, .data, .sentinel, .sentinel], laidTests := true, laidLooks := .later }
def LexNumsUptoCardSaid : Prop := Claim7.holds Tryd.pinned (.plain (OpenSpec.upto lexNumsSpec)) lexNumsUptoCard

/-- THE SECOND FORM's CARD OF 'delverlaw01.LexPlaces'. -/
def lexPlacesUptoCard : Claim7 := { stood := { row := lexPlacesUptoRow, standIns := [], harness := (true, "7ba9d4a5c8e86810ece967d7de7b7721407bf13a985b870969b9d0955bacbe99"), looks := true }, kinds := [], alts := [], laidByText := true, laidKinds := [.data, .data, .data, .sentinel, .sentinel], laidTests := true, laidLooks := .later }
def LexPlacesUptoCardSaid : Prop := Claim7.holds Tryd.pinned (.plain (OpenSpec.upto lexPlacesSpec)) lexPlacesUptoCard

/-- THE SECOND FORM's CARD OF 'delverlaw01.LexNames'. -/
def lexNamesUptoCard : Claim7 := { stood := { row := lexNamesUptoRow, standIns := [], harness := (true, "7ba9d4a5c8e86810ece967d7de7b7721407bf13a985b870969b9d0955bacbe99"), looks := true }, kinds := [], alts := [], laidByText := true, laidKinds := [.data, .data, .data, .sentinel, .sentinel], laidTests := true, laidLooks := .later }
def LexNamesUptoCardSaid : Prop := Claim7.holds Tryd.pinned (.plain (OpenSpec.upto lexNamesSpec)) lexNamesUptoCard

/-- THE SECOND FORM's CARD OF 'delverlaw01.LexEdges'. -/
def lexEdgesUptoCard : Claim7 := { stood := { row := lexEdgesUptoRow, standIns := [], harness := (true, "7ba9d4a5c8e86810ece967d7de7b7721407bf13a985b870969b9d0955bacbe99"), looks := true }, kinds := [], alts := [], laidByText := true, laidKinds := [.data, .data, .data, .sentinel, .sentinel], laidTests := true, laidLooks := .later }
def LexEdgesUptoCardSaid : Prop := Claim7.holds Tryd.pinned (.plain (OpenSpec.upto lexEdgesSpec)) lexEdgesUptoCard

/-- THE SECOND FORM's CARD OF 'delverlaw01.LexExact'. -/
def lexExactUptoCard : Claim7 := { stood := { row := lexExactUptoRow, standIns := [], harness := (true, "7ba9d4a5c8e86810ece967d7de7b7721407bf13a985b870969b9d0955bacbe99"), looks := true }, kinds := [], alts := [], laidByText := true, laidKinds := [.data, .data, .data, .sentinel, .sentinel], laidTests := true, laidLooks := .later }
def LexExactUptoCardSaid : Prop := Claim7.holds Tryd.pinned (.plain (OpenSpec.upto lexExactSpec)) lexExactUptoCard

/-- THE SECOND FORM's CARD OF 'delverlaw01.LexBack'. -/
def lexBackUptoCard : Claim7 := { stood := { row := lexBackUptoRow, standIns := [], harness := (true, "7ba9d4a5c8e86810ece967d7de7b7721407bf13a985b870969b9d0955bacbe99"), looks := true }, kinds := [], alts := [], laidByText := true, laidKinds := [.data, .data, .data, .sentinel, .sentinel], laidTests := true, laidLooks := .later }
def LexBackUptoCardSaid : Prop := Claim7.holds Tryd.pinned (.plain (OpenSpec.upto lexBackSpec)) lexBackUptoCard

/-- THE SECOND FORM's CARD OF 'delverlaw01.LexBlanks'. -/
def lexBlanksUptoCard : Claim7 := { stood := { row := lexBlanksUptoRow, standIns := [], harness := (true, "7ba9d4a5c8e86810ece967d7de7b7721407bf13a985b870969b9d0955bacbe99"), looks := true }, kinds := [], alts := [], laidByText := true, laidKinds := [.data, .data, .data, .sentinel, .sentinel], laidTests := true, laidLooks := .later }
def LexBlanksUptoCardSaid : Prop := Claim7.holds Tryd.pinned (.plain (OpenSpec.upto lexBlanksSpec)) lexBlanksUptoCard

/-- THE SECOND FORM's CARD OF 'delverlaw01.LexFirst'. -/
def lexFirstUptoCard : Claim7 := { stood := { row := lexFirstUptoRow, standIns := [], harness := (true, "7ba9d4a5c8e86810ece967d7de7b7721407bf13a985b870969b9d0955bacbe99"), looks := true }, kinds := [], alts := [], laidByText := true, laidKinds := [.data, .data, .data, .sentinel, .sentinel], laidTests := true, laidLooks := .later }
def LexFirstUptoCardSaid : Prop := Claim7.holds Tryd.pinned (.plain (OpenSpec.upto lexFirstSpec)) lexFirstUptoCard

/-- THE SECOND FORM's CARD OF 'delverlaw01.LexTwo'. -/
def lexTwoUptoCard : Claim7 := { stood := { row := lexTwoUptoRow, standIns := [], harness := (true, "7ba9d4a5c8e86810ece967d7de7b7721407bf13a985b870969b9d0955bacbe99"), looks := true }, kinds := [], alts := [], laidByText := true, laidKinds := [.data, .data, .data, .sentinel, .sentinel], laidTests := true, laidLooks := .later }
def LexTwoUptoCardSaid : Prop := Claim7.holds Tryd.pinned (.plain (OpenSpec.upto lexTwoSpec)) lexTwoUptoCard
end Rows
end Go.Proofs.YtjbpgfcoeaapjaaDoor
