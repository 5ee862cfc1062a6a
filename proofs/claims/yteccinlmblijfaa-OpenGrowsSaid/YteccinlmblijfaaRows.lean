/-
  No cell of these rows narrows 'for every input' (looked for: loops, veiled, ifaces, maps, wideKeys, modest, calm, conditions, laid).
  DERIVED. THE GIVEN ROWS OF THIS SEAT. 5 by the template 'for every input the law returns true; each argument reads behind the call as it read before'; 0 by the template 'total and deterministic' (their statements: YteccinlmblijfaaTotals.lean).
  GIVEN WITH THE SEED: the statements are not yours to turn. If you find one false, say at which input.
  Laid BY PROGRAM, IN A SANDBOX (cutbox-rows.mjs): the forced cells as the released guide's own fill.sh prints them over the translation 4b926db7220b4ad2… (all of the seat's roots in one cut). By AI agents, Wed Nov 11 2026. No macro, syntax, notation, axiom, sorry.
-/
import Derived.Test.YteccinlmblijfaaChecked
import GoSem.Claim
import GoSem.ClaimJoined
import GoSem.ClaimMapViews
import Derived.JoinedTies
import Derived.KernelRfl
namespace Go.Proofs.Yteccinlmblijfaa
/- THE CELL 'sum', in the pinned program and in every row, IS THE sha256 OF THE DUMP (.gsa) THAT YteccinlmblijfaaProg.lean LOADS. Nothing in Lean hashes anything: it is a label: what it is worth is what the hold of that sum in a sandbox is worth. -/
noncomputable def Try.pinned : Pinned := { name := "yteccinlmblijfaa", sum := "4b926db7220b4ad2252dc81d965746bc12e0f82aa7fee1a67f80ffc00811e636", checked := Try.checked }
namespace Rows
def none {H : Type} : Left H := { results := [], args := [] }

/-- 'delverlaw17.OpenGrows': WHATEVER THE INPUT: true; the input reads as it did. -/
def openGrowsSpec : ChangeSpec := { name := "openGrows", fn := fun _ => fun
  | [d1, d2, d3, d4] => { results := [.lit (.bool true)], args := [d1, d2, d3, d4] }
  | _ => none }
def openGrowsRow : OpenClaim := { program := "yteccinlmblijfaa", sum := "4b926db7220b4ad2252dc81d965746bc12e0f82aa7fee1a67f80ffc00811e636", func := "delver/delverlaw17.OpenGrows", spec := "openGrows", unfollowed := true, recurses := true, apart := false }
def OpenGrowsSaid : Prop := openGrowsRow.holds Try.pinned (OpenSpec.ofChange openGrowsSpec)

/-- ITS FALSE NEIGHBOUR: 'it returns false'. Refute it at one input. -/
def openGrowsWrong : ChangeSpec := { name := "openGrows", fn := fun _ => fun
  | [d1, d2, d3, d4] => { results := [.lit (.bool false)], args := [d1, d2, d3, d4] }
  | _ => none }
def OpenGrowsWrongFalsely : Prop := openGrowsRow.holds Try.pinned (OpenSpec.ofChange openGrowsWrong)

/-- 'delverlaw17.OpenBegins': WHATEVER THE INPUT: true; the input reads as it did. -/
def openBeginsSpec : ChangeSpec := { name := "openBegins", fn := fun _ => fun
  | [d] => { results := [.lit (.bool true)], args := [d] }
  | _ => none }
def openBeginsRow : OpenClaim := { program := "yteccinlmblijfaa", sum := "4b926db7220b4ad2252dc81d965746bc12e0f82aa7fee1a67f80ffc00811e636", func := "delver/delverlaw17.OpenBegins", spec := "openBegins", unfollowed := true, recurses := true, apart := false }
def OpenBeginsSaid : Prop := openBeginsRow.holds Try.pinned (OpenSpec.ofChange openBeginsSpec)

/-- ITS FALSE NEIGHBOUR: 'it returns false'. Refute it at one input. -/
def openBeginsWrong : ChangeSpec := { name := "openBegins", fn := fun _ => fun
  | [d] => { results := [.lit (.bool false)], args := [d] }
  | _ => none }
def OpenBeginsWrongFalsely : Prop := openBeginsRow.holds Try.pinned (OpenSpec.ofChange openBeginsWrong)

/-- 'delverlaw17.OpenEdges': WHATEVER THE INPUT: true; the input reads as it did. -/
def openEdgesSpec : ChangeSpec := { name := "openEdges", fn := fun _ => fun
  | [d1, d2] => { results := [.lit (.bool true)], args := [d1, d2] }
  | _ => none }
def openEdgesRow : OpenClaim := { program := "yteccinlmblijfaa", sum := "4b926db7220b4ad2252dc81d965746bc12e0f82aa7fee1a67f80ffc00811e636", func := "delver/delverlaw17.OpenEdges", spec := "openEdges", unfollowed := true, recurses := true, apart := false }
def OpenEdgesSaid : Prop := openEdgesRow.holds Try.pinned (OpenSpec.ofChange openEdgesSpec)

/-- ITS FALSE NEIGHBOUR: 'it returns false'. Refute it at one input. -/
def openEdgesWrong : ChangeSpec := { name := "openEdges", fn := fun _ => fun
  | [d1, d2] => { results := [.lit (.bool false)], args := [d1, d2] }
  | _ => none }
def OpenEdgesWrongFalsely : Prop := openEdgesRow.holds Try.pinned (OpenSpec.ofChange openEdgesWrong)

/-- 'delverlaw17.OpenTells': WHATEVER THE INPUT: true; the input reads as it did. -/
def openTellsSpec : ChangeSpec := { name := "openTells", fn := fun _ => fun
  | [d1, d2, d3, d4, d5, d6] => { results := [.lit (.bool true)], args := [d1, d2, d3, d4, d5, d6] }
  | _ => none }
def openTellsRow : OpenClaim := { program := "yteccinlmblijfaa", sum := "4b926db7220b4ad2252dc81d965746bc12e0f82aa7fee1a67f80ffc00811e636", func := "delver/delverlaw17.OpenTells", spec := "openTells", unfollowed := true, recurses := true, apart := false }
def OpenTellsSaid : Prop := openTellsRow.holds Try.pinned (OpenSpec.ofChange openTellsSpec)

/-- ITS FALSE NEIGHBOUR: 'it returns false'. Refute it at one input. -/
def openTellsWrong : ChangeSpec := { name := "openTells", fn := fun _ => fun
  | [d1, d2, d3, d4, d5, d6] => { results := [.lit (.bool false)], args := [d1, d2, d3, d4, d5, d6] }
  | _ => none }
def OpenTellsWrongFalsely : Prop := openTellsRow.holds Try.pinned (OpenSpec.ofChange openTellsWrong)

/-- 'delverlaw17.OpenBent': WHATEVER THE INPUT: true; the input reads as it did. -/
def openBentSpec : ChangeSpec := { name := "openBent", fn := fun _ => fun
  | [d1, d2, d3] => { results := [.lit (.bool true)], args := [d1, d2, d3] }
  | _ => none }
def openBentRow : OpenClaim := { program := "yteccinlmblijfaa", sum := "4b926db7220b4ad2252dc81d965746bc12e0f82aa7fee1a67f80ffc00811e636", func := "delver/delverlaw17.OpenBent", spec := "openBent", unfollowed := true, recurses := true, apart := false }
def OpenBentSaid : Prop := openBentRow.holds Try.pinned (OpenSpec.ofChange openBentSpec)

/-- ITS FALSE NEIGHBOUR: 'it returns false'. Refute it at one input. -/
def openBentWrong : ChangeSpec := { name := "openBent", fn := fun _ => fun
  | [d1, d2, d3] => { results := [.lit (.bool false)], args := [d1, d2, d3] }
  | _ => none }
def OpenBentWrongFalsely : Prop := openBentRow.holds Try.pinned (OpenSpec.ofChange openBentWrong)

/- THE SECOND FORM. 'bulk': how many values and letters a reading holds, each counted each time it is reached (what is shared counts as often as it is met; a slice's spare places count too). A statement '..UptoSaid' is the law's where the arguments, and the package variables that the reading takes, are together of bulk at most 1048576: NARROWER than '..Said'. Prove '..Said' where nothing that the law and all that it calls make is longer than what came in: it says more and counts as full. Else prove '..UptoSaid'. A law counts once. -/
mutual
def uptoBulk {H : Type} : DataW H → Nat
  | .lit (.string bytes) => bytes.length + 1
  | .lit _ => 1
  | .nil => 1
  | .ptr d => uptoBulk d + 1
  | .slice elems spare => uptoBulkAll elems + uptoBulkAll spare + 1
  | .agg parts => uptoBulkAll parts + 1
  | .iface _ d => uptoBulk d + 1
  | .map entries => uptoBulkEntries entries + 1
  | .held _ => 1
def uptoBulkAll {H : Type} : List (DataW H) → Nat
  | [] => 0
  | d :: r => uptoBulk d + uptoBulkAll r
def uptoBulkEntries {H : Type} : List (Lit × DataW H) → Nat
  | [] => 0
  | x :: r => uptoBulkEntry x + uptoBulkEntries r
def uptoBulkEntry {H : Type} : Lit × DataW H → Nat
  | (.string bytes, d) => bytes.length + uptoBulk d + 1
  | (_, d) => uptoBulk d + 1
 end
def uptoSmall : (H : Type) → List (DataW H) → Bool := fun _ ds => decide (uptoBulkAll ds ≤ 1048576)
def OpenSpec.upto (s : _root_.Go.ChangeSpec) : _root_.Go.OpenSpec := { _root_.Go.OpenSpec.ofChange s with cond := some uptoSmall }

/-- 'delverlaw17.OpenGrows', WHERE WHAT IT READS IS OF BULK AT MOST 1048576: true; the input reads as it did. -/
def openGrowsUptoRow : OpenClaim := { program := "yteccinlmblijfaa", sum := "4b926db7220b4ad2252dc81d965746bc12e0f82aa7fee1a67f80ffc00811e636", func := "delver/delverlaw17.OpenGrows", spec := "openGrows", unfollowed := true, recurses := true, apart := false, narrowed := true }
def OpenGrowsUptoSaid : Prop := openGrowsUptoRow.holds Try.pinned (OpenSpec.upto openGrowsSpec)

/-- 'delverlaw17.OpenBegins', WHERE WHAT IT READS IS OF BULK AT MOST 1048576: true; the input reads as it did. -/
def openBeginsUptoRow : OpenClaim := { program := "yteccinlmblijfaa", sum := "4b926db7220b4ad2252dc81d965746bc12e0f82aa7fee1a67f80ffc00811e636", func := "delver/delverlaw17.OpenBegins", spec := "openBegins", unfollowed := true, recurses := true, apart := false, narrowed := true }
def OpenBeginsUptoSaid : Prop := openBeginsUptoRow.holds Try.pinned (OpenSpec.upto openBeginsSpec)

/-- 'delverlaw17.OpenEdges', WHERE WHAT IT READS IS OF BULK AT MOST 1048576: true; the input reads as it did. -/
def openEdgesUptoRow : OpenClaim := { program := "yteccinlmblijfaa", sum := "4b926db7220b4ad2252dc81d965746bc12e0f82aa7fee1a67f80ffc00811e636", func := "delver/delverlaw17.OpenEdges", spec := "openEdges", unfollowed := true, recurses := true, apart := false, narrowed := true }
def OpenEdgesUptoSaid : Prop := openEdgesUptoRow.holds Try.pinned (OpenSpec.upto openEdgesSpec)

/-- 'delverlaw17.OpenTells', WHERE WHAT IT READS IS OF BULK AT MOST 1048576: true; the input reads as it did. -/
def openTellsUptoRow : OpenClaim := { program := "yteccinlmblijfaa", sum := "4b926db7220b4ad2252dc81d965746bc12e0f82aa7fee1a67f80ffc00811e636", func := "delver/delverlaw17.OpenTells", spec := "openTells", unfollowed := true, recurses := true, apart := false, narrowed := true }
def OpenTellsUptoSaid : Prop := openTellsUptoRow.holds Try.pinned (OpenSpec.upto openTellsSpec)

/-- 'delverlaw17.OpenBent', WHERE WHAT IT READS IS OF BULK AT MOST 1048576: true; the input reads as it did. -/
def openBentUptoRow : OpenClaim := { program := "yteccinlmblijfaa", sum := "4b926db7220b4ad2252dc81d965746bc12e0f82aa7fee1a67f80ffc00811e636", func := "delver/delverlaw17.OpenBent", spec := "openBent", unfollowed := true, recurses := true, apart := false, narrowed := true }
def OpenBentUptoSaid : Prop := openBentUptoRow.holds Try.pinned (OpenSpec.upto openBentSpec)

end Rows
end Go.Proofs.Yteccinlmblijfaa
