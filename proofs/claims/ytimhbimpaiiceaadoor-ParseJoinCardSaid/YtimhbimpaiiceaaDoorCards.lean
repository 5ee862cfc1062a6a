/-
  DERIVED. GIVEN WITH THE SEED: THE CARDS: each row of YtimhbimpaiiceaaDoorRows.lean that lists a variable, with what it lists TIED to the program's text (the seventh form; the later family's looks); each row that meets fmt, with fmt's text TOLD by the authors' own Lean function (tested against real Go, not proved from fmt's source: count such statements apart). THE CARD IS WHAT COUNTS. Prove the row's statement (the work); the ties are given (YtimhbimpaiiceaaDoorTie.lean); close each card by the builder's one call (the guide's Derived/Test/ToyasCard.lean, 'card_holds'). Laid BY PROGRAM, IN A SANDBOX (cutbox-door.mjs). By AI agents, Wed Nov 11 2026. No macro, syntax, notation, axiom, sorry.
-/
import Derived.Test.YtimhbimpaiiceaaDoorRows
import GoSem.ClaimSeven
namespace Go.Proofs.YtimhbimpaiiceaaDoor
namespace Rows

/-- THE TIED CARD OF 'delverlaw02.ParseWords'. -/
def parseWordsCard : Claim7 := { stood := { row := parseWordsRow, standIns := [], harness := (true, "35739c3b3254cbf81f64f18d655bc6f1e27d7927a49463d45f23a802fa13081f"), looks := true }, kinds := [], alts := [], laidByText := true, laidKinds := [.data, .data, .data, .sentinel, .sentinel, .listed, .data], laidTests := true, laidLooks := .later }
def ParseWordsCardSaid : Prop := Claim7.holds Tryd.pinned (.plain (OpenSpec.ofChange parseWordsSpec)) parseWordsCard

/-- THE TIED CARD OF 'delverlaw02.ParseJoin'. -/
def parseJoinCard : Claim7 := { stood := { row := parseJoinRow, standIns := [], harness := (true, "35739c3b3254cbf81f64f18d655bc6f1e27d7927a49463d45f23a802fa13081f"), looks := true }, kinds := [], alts := [], laidByText := true, laidKinds := [.data, .data, .data, .sentinel, .sentinel, .listed, .data], laidTests := true, laidLooks := .later }
def ParseJoinCardSaid : Prop := Claim7.holds Tryd.pinned (.plain (OpenSpec.ofChange parseJoinSpec)) parseJoinCard

/-- THE TIED CARD OF 'delverlaw02.ParseInstr'. -/
def parseInstrCard : Claim7 := { stood := { row := parseInstrRow, standIns := [], harness := (true, "35739c3b3254cbf81f64f18d655bc6f1e27d7927a49463d45f23a802fa13081f"), looks := true }, kinds := [], alts := [], laidByText := true, laidKinds := [.data, .data, .data, .sentinel, .sentinel, .listed, .data], laidTests := true, laidLooks := .later }
def ParseInstrCardSaid : Prop := Claim7.holds Tryd.pinned (.plain (OpenSpec.ofChange parseInstrSpec)) parseInstrCard

/-- THE TIED CARD OF 'delverlaw02.ParseMany'. -/
def parseManyCard : Claim7 := { stood := { row := parseManyRow, standIns := [], harness := (true, "35739c3b3254cbf81f64f18d655bc6f1e27d7927a49463d45f23a802fa13081f"), looks := true }, kinds := [], alts := [], laidByText := true, laidKinds := [.data, .data, .data, .sentinel, .sentinel, .listed, .data], laidTests := true, laidLooks := .later }
def ParseManyCardSaid : Prop := Claim7.holds Tryd.pinned (.plain (OpenSpec.ofChange parseManySpec)) parseManyCard

/-- THE TIED CARD OF 'delverlaw02.ParseKept'. -/
def parseKeptCard : Claim7 := { stood := { row := parseKeptRow, standIns := [], harness := (true, "35739c3b3254cbf81f64f18d655bc6f1e27d7927a49463d45f23a802fa13081f"), looks := true }, kinds := [], alts := [], laidByText := true, laidKinds := [.data, .data, .data, .sentinel, .sentinel, .listed, .data], laidTests := true, laidLooks := .later }
def ParseKeptCardSaid : Prop := Claim7.holds Tryd.pinned (.plain (OpenSpec.ofChange parseKeptSpec)) parseKeptCard

/-- THE TIED CARD OF 'delverlaw02.ParseTypes'. -/
def parseTypesCard : Claim7 := { stood := { row := parseTypesRow, standIns := [], harness := (true, "35739c3b3254cbf81f64f18d655bc6f1e27d7927a49463d45f23a802fa13081f"), looks := true }, kinds := [], alts := [], laidByText := true, laidKinds := [.data, .data, .data, .sentinel, .sentinel, .listed, .data], laidTests := true, laidLooks := .later }
def ParseTypesCardSaid : Prop := Claim7.holds Tryd.pinned (.plain (OpenSpec.ofChange parseTypesSpec)) parseTypesCard

/-- THE TIED CARD OF 'delverlaw02.ParseBlanks'. -/
def parseBlanksCard : Claim7 := { stood := { row := parseBlanksRow, standIns := [], harness := (true, "35739c3b3254cbf81f64f18d655bc6f1e27d7927a49463d45f23a802fa13081f"), looks := true }, kinds := [], alts := [], laidByText := true, laidKinds := [.data, .data, .data, .sentinel, .sentinel, .listed, .data], laidTests := true, laidLooks := .later }
def ParseBlanksCardSaid : Prop := Claim7.holds Tryd.pinned (.plain (OpenSpec.ofChange parseBlanksSpec)) parseBlanksCard

/-- THE TIED CARD OF 'delverlaw02.ParseCut'. -/
def parseCutCard : Claim7 := { stood := { row := parseCutRow, standIns := [], harness := (true, "35739c3b3254cbf81f64f18d655bc6f1e27d7927a49463d45f23a802fa13081f"), looks := true }, kinds := [], alts := [], laidByText := true, laidKinds := [.data, .data, .data, .sentinel, .sentinel, .listed, .data], laidTests := true, laidLooks := .later }
def ParseCutCardSaid : Prop := Claim7.holds Tryd.pinned (.plain (OpenSpec.ofChange parseCutSpec)) parseCutCard

/-- THE SECOND FORM's CARD OF 'delverlaw02.ParseWords'. -/
def parseWordsUptoCard : Claim7 := { stood := { row := parseWordsUptoRow, standIns := [], harness := (true, "35739c3b3254cbf81f64f18d655bc6f1e27d7927a49463d45f23a802fa13081f"), looks := true }, kinds := [], alts := [], laidByText := true, laidKinds := [.data, .data, .data, .sentinel, .sentinel, .listed, .data], laidTests := true, laidLooks := .later }
def ParseWordsUptoCardSaid : Prop := Claim7.holds Tryd.pinned (.plain (OpenSpec.upto parseWordsSpec)) parseWordsUptoCard

/-- THE SECOND FORM's CARD OF 'delverlaw02.ParseJoin'. -/
def parseJoinUptoCard : Claim7 := { stood := { row := parseJoinUptoRow, standIns := [], harness := (true, "35739c3b3254cbf81f64f18d655bc6f1e27d7927a49463d45f23a802fa13081f"), looks := true }, kinds := [], alts := [], laidByText := true, laidKinds := [.data, .data, .data, .sentinel, .sentinel, .listed, .data], laidTests := true, laidLooks := .later }
def ParseJoinUptoCardSaid : Prop := Claim7.holds Tryd.pinned (.plain (OpenSpec.upto parseJoinSpec)) parseJoinUptoCard

/-- THE SECOND FORM's CARD OF 'delverlaw02.ParseInstr'. -/
def parseInstrUptoCard : Claim7 := { stood := { row := parseInstrUptoRow, standIns := [], harness := (true, "35739c3b3254cbf81f64f18d655bc6f1e27d7927a49463d45f23a802fa13081f"), looks := true }, kinds := [], alts := [], laidByText := true, laidKinds := [.data, .data, .data, .sentinel, .sentinel, .listed, .data], laidTests := true, laidLooks := .later }
def ParseInstrUptoCardSaid : Prop := Claim7.holds Tryd.pinned (.plain (OpenSpec.upto parseInstrSpec)) parseInstrUptoCard

/-- THE SECOND FORM's CARD OF 'delverlaw02.ParseMany'. -/
def parseManyUptoCard : Claim7 := { stood := { row := parseManyUptoRow, standIns := [], harness := (true, "35739c3b3254cbf81f64f18d655bc6f1e27d7927a49463d45f23a802fa13081f"), looks := true }, kinds := [], alts := [], laidByText := true, laidKinds := [.data, .data, .data, .sentinel, .sentinel, .listed, .data], laidTests := true, laidLooks := .later }
def ParseManyUptoCardSaid : Prop := Claim7.holds Tryd.pinned (.plain (OpenSpec.upto parseManySpec)) parseManyUptoCard

/-- THE SECOND FORM's CARD OF 'delverlaw02.ParseKept'. -/
def parseKeptUptoCard : Claim7 := { stood := { row := parseKeptUptoRow, standIns := [], harness := (true, "35739c3b3254cbf81f64f18d655bc6f1e27d7927a49463d45f23a802fa13081f"), looks := true }, kinds := [], alts := [], laidByText := true, laidKinds := [.data, .data, .data, .sentinel, .sentinel, .listed, .data], laidTests := true, laidLooks := .later }
def ParseKeptUptoCardSaid : Prop := Claim7.holds Tryd.pinned (.plain (OpenSpec.upto parseKeptSpec)) parseKeptUptoCard

/-- THE SECOND FORM's CARD OF 'delverlaw02.ParseTypes'. -/
def parseTypesUptoCard : Claim7 := { stood := { row := parseTypesUptoRow, standIns := [], harness := (true, "35739c3b3254cbf81f64f18d655bc6f1e27d7927a49463d45f23a802fa13081f"), looks := true }, kinds := [], alts := [], laidByText := true, laidKinds := [.data, .data, .data, .sentinel, .sentinel, .listed, .data], laidTests := true, laidLooks := .later }
def ParseTypesUptoCardSaid : Prop := Claim7.holds Tryd.pinned (.plain (OpenSpec.upto parseTypesSpec)) parseTypesUptoCard

/-- THE SECOND FORM's CARD OF 'delverlaw02.ParseBlanks'. -/
def parseBlanksUptoCard : Claim7 := { stood := { row := parseBlanksUptoRow, standIns := [], harness := (true, "35739c3b3254cbf81f64f18d655bc6f1e27d7927a49463d45f23a802fa13081f"), looks := true }, kinds := [], alts := [], laidByText := true, laidKinds := [.data, .data, .data, .sentinel, .sentinel, .listed, .data], laidTests := true, laidLooks := .later }
def ParseBlanksUptoCardSaid : Prop := Claim7.holds Tryd.pinned (.plain (OpenSpec.upto parseBlanksSpec)) parseBlanksUptoCard

/-- THE SECOND FORM's CARD OF 'delverlaw02.ParseCut'. -/
def parseCutUptoCard : Claim7 := { stood := { row := parseCutUptoRow, standIns := [], harness := (true, "35739c3b3254cbf81f64f18d655bc6f1e27d7927a49463d45f23a802fa13081f"), looks := true }, kinds := [], alts := [], laidByText := true, laidKinds := [.data, .data, .data, .sentinel, .sentinel, .listed, .data], laidTests := true, laidLooks := .later }
def ParseCutUptoCardSaid : Prop := Claim7.holds Tryd.pinned (.plain (OpenSpec.upto parseCutSpec)) parseCutUptoCard
end Rows
end Go.Proofs.YtimhbimpaiiceaaDoor
