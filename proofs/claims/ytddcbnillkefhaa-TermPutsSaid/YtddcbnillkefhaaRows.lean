/-
  No cell of these rows narrows 'for every input' (looked for: loops, veiled, ifaces, maps, wideKeys, modest, calm, conditions, laid).
  DERIVED. THE GIVEN ROWS OF THIS SEAT. 5 by the template 'for every input the law returns true; each argument reads behind the call as it read before'; 0 by the template 'total and deterministic' (their statements: YtddcbnillkefhaaTotals.lean).
  GIVEN WITH THE SEED: the statements are not yours to turn. If you find one false, say at which input.
  Laid BY PROGRAM, IN A SANDBOX (cutbox-rows.mjs): the forced cells as the released guide's own fill.sh prints them over the translation c7bcd4cc1f186e0b… (all of the seat's roots in one cut). By AI agents, Wed Nov 11 2026. No macro, syntax, notation, axiom, sorry.
-/
import Derived.Test.YtddcbnillkefhaaChecked
import GoSem.Claim
import GoSem.ClaimJoined
import GoSem.ClaimMapViews
import Derived.JoinedTies
import Derived.KernelRfl
namespace Go.Proofs.Ytddcbnillkefhaa
/- THE CELL 'sum', in the pinned program and in every row, IS THE sha256 OF THE DUMP (.gsa) THAT YtddcbnillkefhaaProg.lean LOADS. Nothing in Lean hashes anything: it is a label: what it is worth is what the hold of that sum in a sandbox is worth. -/
noncomputable def Try.pinned : Pinned := { name := "ytddcbnillkefhaa", sum := "c7bcd4cc1f186e0ba2114bbf185628e2c40f4a50c820d62db8bfcf624dbeb7c5", checked := Try.checked }
namespace Rows
def none {H : Type} : Left H := { results := [], args := [] }

/-- 'delverlaw13.TermEdges': WHATEVER THE INPUT: true; the input reads as it did. -/
def termEdgesSpec : ChangeSpec := { name := "termEdges", fn := fun _ => fun
  | [d] => { results := [.lit (.bool true)], args := [d] }
  | _ => none }
def termEdgesRow : OpenClaim := { program := "ytddcbnillkefhaa", sum := "c7bcd4cc1f186e0ba2114bbf185628e2c40f4a50c820d62db8bfcf624dbeb7c5", func := "delver/delverlaw13.TermEdges", spec := "termEdges", unfollowed := true, recurses := true, apart := false }
def TermEdgesSaid : Prop := termEdgesRow.holds Try.pinned (OpenSpec.ofChange termEdgesSpec)

/-- ITS FALSE NEIGHBOUR: 'it returns false'. Refute it at one input. -/
def termEdgesWrong : ChangeSpec := { name := "termEdges", fn := fun _ => fun
  | [d] => { results := [.lit (.bool false)], args := [d] }
  | _ => none }
def TermEdgesWrongFalsely : Prop := termEdgesRow.holds Try.pinned (OpenSpec.ofChange termEdgesWrong)

/-- 'delverlaw13.TermKs': WHATEVER THE INPUT: true; the input reads as it did. -/
def termKsSpec : ChangeSpec := { name := "termKs", fn := fun _ => fun
  | [d1, d2, d3, d4] => { results := [.lit (.bool true)], args := [d1, d2, d3, d4] }
  | _ => none }
def termKsRow : OpenClaim := { program := "ytddcbnillkefhaa", sum := "c7bcd4cc1f186e0ba2114bbf185628e2c40f4a50c820d62db8bfcf624dbeb7c5", func := "delver/delverlaw13.TermKs", spec := "termKs", unfollowed := true, recurses := true, apart := false }
def TermKsSaid : Prop := termKsRow.holds Try.pinned (OpenSpec.ofChange termKsSpec)

/-- ITS FALSE NEIGHBOUR: 'it returns false'. Refute it at one input. -/
def termKsWrong : ChangeSpec := { name := "termKs", fn := fun _ => fun
  | [d1, d2, d3, d4] => { results := [.lit (.bool false)], args := [d1, d2, d3, d4] }
  | _ => none }
def TermKsWrongFalsely : Prop := termKsRow.holds Try.pinned (OpenSpec.ofChange termKsWrong)

/-- 'delverlaw13.TermValues': WHATEVER THE INPUT: true; the input reads as it did. -/
def termValuesSpec : ChangeSpec := { name := "termValues", fn := fun _ => fun
  | [d1, d2, d3, d4, d5] => { results := [.lit (.bool true)], args := [d1, d2, d3, d4, d5] }
  | _ => none }
def termValuesRow : OpenClaim := { program := "ytddcbnillkefhaa", sum := "c7bcd4cc1f186e0ba2114bbf185628e2c40f4a50c820d62db8bfcf624dbeb7c5", func := "delver/delverlaw13.TermValues", spec := "termValues", unfollowed := true, recurses := true, apart := false }
def TermValuesSaid : Prop := termValuesRow.holds Try.pinned (OpenSpec.ofChange termValuesSpec)

/-- ITS FALSE NEIGHBOUR: 'it returns false'. Refute it at one input. -/
def termValuesWrong : ChangeSpec := { name := "termValues", fn := fun _ => fun
  | [d1, d2, d3, d4, d5] => { results := [.lit (.bool false)], args := [d1, d2, d3, d4, d5] }
  | _ => none }
def TermValuesWrongFalsely : Prop := termValuesRow.holds Try.pinned (OpenSpec.ofChange termValuesWrong)

/-- 'delverlaw13.TermRing': WHATEVER THE INPUT: true; the input reads as it did. -/
def termRingSpec : ChangeSpec := { name := "termRing", fn := fun _ => fun
  | [d1, d2, d3] => { results := [.lit (.bool true)], args := [d1, d2, d3] }
  | _ => none }
def termRingRow : OpenClaim := { program := "ytddcbnillkefhaa", sum := "c7bcd4cc1f186e0ba2114bbf185628e2c40f4a50c820d62db8bfcf624dbeb7c5", func := "delver/delverlaw13.TermRing", spec := "termRing", unfollowed := true, recurses := true, apart := false }
def TermRingSaid : Prop := termRingRow.holds Try.pinned (OpenSpec.ofChange termRingSpec)

/-- ITS FALSE NEIGHBOUR: 'it returns false'. Refute it at one input. -/
def termRingWrong : ChangeSpec := { name := "termRing", fn := fun _ => fun
  | [d1, d2, d3] => { results := [.lit (.bool false)], args := [d1, d2, d3] }
  | _ => none }
def TermRingWrongFalsely : Prop := termRingRow.holds Try.pinned (OpenSpec.ofChange termRingWrong)

/-- 'delverlaw13.TermPuts': WHATEVER THE INPUT: true; the input reads as it did. -/
def termPutsSpec : ChangeSpec := { name := "termPuts", fn := fun _ => fun
  | [d1, d2, d3] => { results := [.lit (.bool true)], args := [d1, d2, d3] }
  | _ => none }
def termPutsRow : OpenClaim := { program := "ytddcbnillkefhaa", sum := "c7bcd4cc1f186e0ba2114bbf185628e2c40f4a50c820d62db8bfcf624dbeb7c5", func := "delver/delverlaw13.TermPuts", spec := "termPuts", unfollowed := true, recurses := true, apart := false }
def TermPutsSaid : Prop := termPutsRow.holds Try.pinned (OpenSpec.ofChange termPutsSpec)

/-- ITS FALSE NEIGHBOUR: 'it returns false'. Refute it at one input. -/
def termPutsWrong : ChangeSpec := { name := "termPuts", fn := fun _ => fun
  | [d1, d2, d3] => { results := [.lit (.bool false)], args := [d1, d2, d3] }
  | _ => none }
def TermPutsWrongFalsely : Prop := termPutsRow.holds Try.pinned (OpenSpec.ofChange termPutsWrong)

/- THE SECOND FORM. 'bulk': how many values and letters a reading holds, each counted each time it is reached (what is shared counts as often as it is met; a slice's spare places count too). A statement '..UptoSaid' is the law's where the arguments, and the package variables that the reading takes, are together of bulk at most 1048576: NARROWER than '..Said'. Prove '..Said' where nothing that the law and all that it calls make is longer than what came in: it says more and counts as full. Else prove '..UptoSaid'. A law counts once. -/
mutual
def uptoBulk {H : Type} : DataW H → Nat
  | .lit (.string bytes) => bytes.length + 1
  | .lit _ => 1
  | .nil => 1
  | .ptr d => uptoBulk d + 1
  | .slice elems spare => uptoBulkAll elems + uptoBulkAll spare + 1
  | .agg parts => uptoBulkAll parts + 1
  | .iface _ d => uptoBulk d + 1
  | .map entries => uptoBulkEntries entries + 1
  | .held _ => 1
def uptoBulkAll {H : Type} : List (DataW H) → Nat
  | [] => 0
  | d :: r => uptoBulk d + uptoBulkAll r
def uptoBulkEntries {H : Type} : List (Lit × DataW H) → Nat
  | [] => 0
  | x :: r => uptoBulkEntry x + uptoBulkEntries r
def uptoBulkEntry {H : Type} : Lit × DataW H → Nat
  | (.string bytes, d) => bytes.length + uptoBulk d + 1
  | (_, d) => uptoBulk d + 1
 end
def uptoSmall : (H : Type) → List (DataW H) → Bool := fun _ ds => decide (uptoBulkAll ds ≤ 1048576)
def OpenSpec.upto (s : _root_.Go.ChangeSpec) : _root_.Go.OpenSpec := { _root_.Go.OpenSpec.ofChange s with cond := some uptoSmall }

/-- 'delverlaw13.TermEdges', WHERE WHAT IT READS IS OF BULK AT MOST 1048576: true; the input reads as it did. -/
def termEdgesUptoRow : OpenClaim := { program := "ytddcbnillkefhaa", sum := "c7bcd4cc1f186e0ba2114bbf185628e2c40f4a50c820d62db8bfcf624dbeb7c5", func := "delver/delverlaw13.TermEdges", spec := "termEdges", unfollowed := true, recurses := true, apart := false, narrowed := true }
def TermEdgesUptoSaid : Prop := termEdgesUptoRow.holds Try.pinned (OpenSpec.upto termEdgesSpec)

/-- 'delverlaw13.TermKs', WHERE WHAT IT READS IS OF BULK AT MOST 1048576: true; the input reads as it did. -/
def termKsUptoRow : OpenClaim := { program := "ytddcbnillkefhaa", sum := "c7bcd4cc1f186e0ba2114bbf185628e2c40f4a50c820d62db8bfcf624dbeb7c5", func := "delver/delverlaw13.TermKs", spec := "termKs", unfollowed := true, recurses := true, apart := false, narrowed := true }
def TermKsUptoSaid : Prop := termKsUptoRow.holds Try.pinned (OpenSpec.upto termKsSpec)

/-- 'delverlaw13.TermValues', WHERE WHAT IT READS IS OF BULK AT MOST 1048576: true; the input reads as it did. -/
def termValuesUptoRow : OpenClaim := { program := "ytddcbnillkefhaa", sum := "c7bcd4cc1f186e0ba2114bbf185628e2c40f4a50c820d62db8bfcf624dbeb7c5", func := "delver/delverlaw13.TermValues", spec := "termValues", unfollowed := true, recurses := true, apart := false, narrowed := true }
def TermValuesUptoSaid : Prop := termValuesUptoRow.holds Try.pinned (OpenSpec.upto termValuesSpec)

/-- 'delverlaw13.TermRing', WHERE WHAT IT READS IS OF BULK AT MOST 1048576: true; the input reads as it did. -/
def termRingUptoRow : OpenClaim := { program := "ytddcbnillkefhaa", sum := "c7bcd4cc1f186e0ba2114bbf185628e2c40f4a50c820d62db8bfcf624dbeb7c5", func := "delver/delverlaw13.TermRing", spec := "termRing", unfollowed := true, recurses := true, apart := false, narrowed := true }
def TermRingUptoSaid : Prop := termRingUptoRow.holds Try.pinned (OpenSpec.upto termRingSpec)

/-- 'delverlaw13.TermPuts', WHERE WHAT IT READS IS OF BULK AT MOST 1048576: true; the input reads as it did. -/
def termPutsUptoRow : OpenClaim := { program := "ytddcbnillkefhaa", sum := "c7bcd4cc1f186e0ba2114bbf185628e2c40f4a50c820d62db8bfcf624dbeb7c5", func := "delver/delverlaw13.TermPuts", spec := "termPuts", unfollowed := true, recurses := true, apart := false, narrowed := true }
def TermPutsUptoSaid : Prop := termPutsUptoRow.holds Try.pinned (OpenSpec.upto termPutsSpec)

end Rows
end Go.Proofs.Ytddcbnillkefhaa
