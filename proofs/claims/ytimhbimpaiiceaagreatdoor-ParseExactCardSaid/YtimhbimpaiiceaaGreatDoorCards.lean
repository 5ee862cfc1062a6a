/-
  DERIVED. GIVEN WITH THE SEED: THE CARDS: each row of YtimhbimpaiiceaaGreatDoorRows.lean that lists a variable, with what it lists TIED to the program's text (the seventh form; the later family's looks); each row that meets fmt, with fmt's text TOLD by the authors' own Lean function (tested against real Go, not proved from fmt's source: count such statements apart). THE CARD IS WHAT COUNTS. Prove the row's statement (the work); the ties are given (YtimhbimpaiiceaaGreatDoorTie.lean); close each card by the builder's one call (the guide's Derived/Test/ToyasCard.lean, 'card_holds'). Laid BY PROGRAM, IN A SANDBOX (cutbox-door.mjs). By AI agents, Wed Nov 11 2026. No macro, syntax, notation, axiom, sorry.
-/
import Derived.Test.YtimhbimpaiiceaaGreatDoorRows
import GoSem.ClaimSeven
namespace Go.Proofs.YtimhbimpaiiceaaGreatDoor
namespace Rows

/-- THE TIED CARD OF 'delverlaw02.ParseExact'. -/
def parseExactCard : Claim7 := { stood := { row := parseExactRow, standIns := [], harness := (true, "5e77eb41b2d21248a6c9069f50802401d96ee734c0da903106315ef81e34032d"), looks := true }, kinds := [], alts := [], laidByText := true, laidKinds := [.data, .data, .data, .sentinel, .sentinel, .listed, .data], laidTests := true, laidLooks := .later }
def ParseExactCardSaid : Prop := Claim7.holds Tryz.pinned (.plain (OpenSpec.ofChange parseExactSpec)) parseExactCard

/-- THE SECOND FORM's CARD OF 'delverlaw02.ParseExact'. -/
def parseExactUptoCard : Claim7 := { stood := { row := parseExactUptoRow, standIns := [], harness := (true, "5e77eb41b2d21248a6c9069f50802401d96ee734c0da903106315ef81e34032d"), looks := true }, kinds := [], alts := [], laidByText := true, laidKinds := [.data, .data, .data, .sentinel, .sentinel, .listed, .data], laidTests := true, laidLooks := .later }
def ParseExactUptoCardSaid : Prop := Claim7.holds Tryz.pinned (.plain (OpenSpec.upto parseExactSpec)) parseExactUptoCard
end Rows
end Go.Proofs.YtimhbimpaiiceaaGreatDoor
