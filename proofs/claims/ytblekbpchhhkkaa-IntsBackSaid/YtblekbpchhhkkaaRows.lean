/-
  No cell of these rows narrows 'for every input' (looked for: loops, veiled, ifaces, maps, wideKeys, modest, calm, conditions, laid).
  DERIVED. THE GIVEN ROWS OF THIS SEAT. 6 by the template 'for every input the law returns true; each argument reads behind the call as it read before'; 0 by the template 'total and deterministic' (their statements: YtblekbpchhhkkaaTotals.lean).
  GIVEN WITH THE SEED: the statements are not yours to turn. If you find one false, say at which input.
  Laid BY PROGRAM, IN A SANDBOX (cutbox-rows.mjs): the forced cells as the released guide's own fill.sh prints them over the translation d37c999809416248… (all of the seat's roots in one cut). By AI agents, Wed Nov 11 2026. No macro, syntax, notation, axiom, sorry.
-/
import Derived.Test.YtblekbpchhhkkaaChecked
import GoSem.Claim
import GoSem.ClaimJoined
import GoSem.ClaimMapViews
import Derived.JoinedTies
import Derived.KernelRfl
namespace Go.Proofs.Ytblekbpchhhkkaa
/- THE CELL 'sum', in the pinned program and in every row, IS THE sha256 OF THE DUMP (.gsa) THAT YtblekbpchhhkkaaProg.lean LOADS. Nothing in Lean hashes anything: it is a label: what it is worth is what the hold of that sum in a sandbox is worth. -/
noncomputable def Try.pinned : Pinned := { name := "ytblekbpchhhkkaa", sum := "d37c999809416248f1c33c9f24ae5cc0fd4ae1775d68b147efdccf7f53e20b63", checked := Try.checked }
namespace Rows
def none {H : Type} : Left H := { results := [], args := [] }

/-- 'delverlaw08.IntsBack': WHATEVER THE INPUT: true; the input reads as it did. -/
def intsBackSpec : ChangeSpec := { name := "intsBack", fn := fun _ => fun
  | [d1, d2] => { results := [.lit (.bool true)], args := [d1, d2] }
  | _ => none }
def intsBackRow : OpenClaim := { program := "ytblekbpchhhkkaa", sum := "d37c999809416248f1c33c9f24ae5cc0fd4ae1775d68b147efdccf7f53e20b63", func := "delver/delverlaw08.IntsBack", spec := "intsBack", apart := false }
def IntsBackSaid : Prop := intsBackRow.holds Try.pinned (OpenSpec.ofChange intsBackSpec)

/-- ITS FALSE NEIGHBOUR: 'it returns false'. Refute it at one input. -/
def intsBackWrong : ChangeSpec := { name := "intsBack", fn := fun _ => fun
  | [d1, d2] => { results := [.lit (.bool false)], args := [d1, d2] }
  | _ => none }
def IntsBackWrongFalsely : Prop := intsBackRow.holds Try.pinned (OpenSpec.ofChange intsBackWrong)

/-- 'delverlaw08.IntsRing': WHATEVER THE INPUT: true; the input reads as it did. -/
def intsRingSpec : ChangeSpec := { name := "intsRing", fn := fun _ => fun
  | [d1, d2, d3] => { results := [.lit (.bool true)], args := [d1, d2, d3] }
  | _ => none }
def intsRingRow : OpenClaim := { program := "ytblekbpchhhkkaa", sum := "d37c999809416248f1c33c9f24ae5cc0fd4ae1775d68b147efdccf7f53e20b63", func := "delver/delverlaw08.IntsRing", spec := "intsRing", apart := false }
def IntsRingSaid : Prop := intsRingRow.holds Try.pinned (OpenSpec.ofChange intsRingSpec)

/-- ITS FALSE NEIGHBOUR: 'it returns false'. Refute it at one input. -/
def intsRingWrong : ChangeSpec := { name := "intsRing", fn := fun _ => fun
  | [d1, d2, d3] => { results := [.lit (.bool false)], args := [d1, d2, d3] }
  | _ => none }
def IntsRingWrongFalsely : Prop := intsRingRow.holds Try.pinned (OpenSpec.ofChange intsRingWrong)

/-- 'delverlaw08.IntsOrder': WHATEVER THE INPUT: true; the input reads as it did. -/
def intsOrderSpec : ChangeSpec := { name := "intsOrder", fn := fun _ => fun
  | [d1, d2, d3] => { results := [.lit (.bool true)], args := [d1, d2, d3] }
  | _ => none }
def intsOrderRow : OpenClaim := { program := "ytblekbpchhhkkaa", sum := "d37c999809416248f1c33c9f24ae5cc0fd4ae1775d68b147efdccf7f53e20b63", func := "delver/delverlaw08.IntsOrder", spec := "intsOrder", apart := false }
def IntsOrderSaid : Prop := intsOrderRow.holds Try.pinned (OpenSpec.ofChange intsOrderSpec)

/-- ITS FALSE NEIGHBOUR: 'it returns false'. Refute it at one input. -/
def intsOrderWrong : ChangeSpec := { name := "intsOrder", fn := fun _ => fun
  | [d1, d2, d3] => { results := [.lit (.bool false)], args := [d1, d2, d3] }
  | _ => none }
def IntsOrderWrongFalsely : Prop := intsOrderRow.holds Try.pinned (OpenSpec.ofChange intsOrderWrong)

/-- 'delverlaw08.IntsEdges': WHATEVER THE INPUT: true; the input reads as it did. -/
def intsEdgesSpec : ChangeSpec := { name := "intsEdges", fn := fun _ => fun
  | [d] => { results := [.lit (.bool true)], args := [d] }
  | _ => none }
def intsEdgesRow : OpenClaim := { program := "ytblekbpchhhkkaa", sum := "d37c999809416248f1c33c9f24ae5cc0fd4ae1775d68b147efdccf7f53e20b63", func := "delver/delverlaw08.IntsEdges", spec := "intsEdges", apart := false }
def IntsEdgesSaid : Prop := intsEdgesRow.holds Try.pinned (OpenSpec.ofChange intsEdgesSpec)

/-- ITS FALSE NEIGHBOUR: 'it returns false'. Refute it at one input. -/
def intsEdgesWrong : ChangeSpec := { name := "intsEdges", fn := fun _ => fun
  | [d] => { results := [.lit (.bool false)], args := [d] }
  | _ => none }
def IntsEdgesWrongFalsely : Prop := intsEdgesRow.holds Try.pinned (OpenSpec.ofChange intsEdgesWrong)

/-- 'delverlaw08.IntsExact': WHATEVER THE INPUT: true; the input reads as it did. -/
def intsExactSpec : ChangeSpec := { name := "intsExact", fn := fun _ => fun
  | [d1, d2] => { results := [.lit (.bool true)], args := [d1, d2] }
  | _ => none }
def intsExactRow : OpenClaim := { program := "ytblekbpchhhkkaa", sum := "d37c999809416248f1c33c9f24ae5cc0fd4ae1775d68b147efdccf7f53e20b63", func := "delver/delverlaw08.IntsExact", spec := "intsExact", apart := false }
def IntsExactSaid : Prop := intsExactRow.holds Try.pinned (OpenSpec.ofChange intsExactSpec)

/-- ITS FALSE NEIGHBOUR: 'it returns false'. Refute it at one input. -/
def intsExactWrong : ChangeSpec := { name := "intsExact", fn := fun _ => fun
  | [d1, d2] => { results := [.lit (.bool false)], args := [d1, d2] }
  | _ => none }
def IntsExactWrongFalsely : Prop := intsExactRow.holds Try.pinned (OpenSpec.ofChange intsExactWrong)

/-- 'delverlaw08.IntsSigns': WHATEVER THE INPUT: true; the input reads as it did. -/
def intsSignsSpec : ChangeSpec := { name := "intsSigns", fn := fun _ => fun
  | [d1, d2] => { results := [.lit (.bool true)], args := [d1, d2] }
  | _ => none }
def intsSignsRow : OpenClaim := { program := "ytblekbpchhhkkaa", sum := "d37c999809416248f1c33c9f24ae5cc0fd4ae1775d68b147efdccf7f53e20b63", func := "delver/delverlaw08.IntsSigns", spec := "intsSigns", apart := false }
def IntsSignsSaid : Prop := intsSignsRow.holds Try.pinned (OpenSpec.ofChange intsSignsSpec)

/-- ITS FALSE NEIGHBOUR: 'it returns false'. Refute it at one input. -/
def intsSignsWrong : ChangeSpec := { name := "intsSigns", fn := fun _ => fun
  | [d1, d2] => { results := [.lit (.bool false)], args := [d1, d2] }
  | _ => none }
def IntsSignsWrongFalsely : Prop := intsSignsRow.holds Try.pinned (OpenSpec.ofChange intsSignsWrong)

/- THE SECOND FORM. 'bulk': how many values and letters a reading holds, each counted each time it is reached (what is shared counts as often as it is met; a slice's spare places count too). A statement '..UptoSaid' is the law's where the arguments, and the package variables that the reading takes, are together of bulk at most 1048576: NARROWER than '..Said'. Prove '..Said' where nothing that the law and all that it calls make is longer than what came in: it says more and counts as full. Else prove '..UptoSaid'. A law counts once. -/
mutual
def uptoBulk {H : Type} : DataW H → Nat
  | .lit (.string bytes) => bytes.length + 1
  | .lit _ => 1
  | .nil => 1
  | .ptr d => uptoBulk d + 1
  | .slice elems spare => uptoBulkAll elems + uptoBulkAll spare + 1
  | .agg parts => uptoBulkAll parts + 1
  | .iface _ d => uptoBulk d + 1
  | .map entries => uptoBulkEntries entries + 1
  | .held _ => 1
def uptoBulkAll {H : Type} : List (DataW H) → Nat
  | [] => 0
  | d :: r => uptoBulk d + uptoBulkAll r
def uptoBulkEntries {H : Type} : List (Lit × DataW H) → Nat
  | [] => 0
  | x :: r => uptoBulkEntry x + uptoBulkEntries r
def uptoBulkEntry {H : Type} : Lit × DataW H → Nat
  | (.string bytes, d) => bytes.length + uptoBulk d + 1
  | (_, d) => uptoBulk d + 1
 end
def uptoSmall : (H : Type) → List (DataW H) → Bool := fun _ ds => decide (uptoBulkAll ds ≤ 1048576)
def OpenSpec.upto (s : _root_.Go.ChangeSpec) : _root_.Go.OpenSpec := { _root_.Go.OpenSpec.ofChange s with cond := some uptoSmall }

/-- 'delverlaw08.IntsBack', WHERE WHAT IT READS IS OF BULK AT MOST 1048576: true; the input reads as it did. -/
def intsBackUptoRow : OpenClaim := { program := "ytblekbpchhhkkaa", sum := "d37c999809416248f1c33c9f24ae5cc0fd4ae1775d68b147efdccf7f53e20b63", func := "delver/delverlaw08.IntsBack", spec := "intsBack", apart := false, narrowed := true }
def IntsBackUptoSaid : Prop := intsBackUptoRow.holds Try.pinned (OpenSpec.upto intsBackSpec)

/-- 'delverlaw08.IntsRing', WHERE WHAT IT READS IS OF BULK AT MOST 1048576: true; the input reads as it did. -/
def intsRingUptoRow : OpenClaim := { program := "ytblekbpchhhkkaa", sum := "d37c999809416248f1c33c9f24ae5cc0fd4ae1775d68b147efdccf7f53e20b63", func := "delver/delverlaw08.IntsRing", spec := "intsRing", apart := false, narrowed := true }
def IntsRingUptoSaid : Prop := intsRingUptoRow.holds Try.pinned (OpenSpec.upto intsRingSpec)

/-- 'delverlaw08.IntsOrder', WHERE WHAT IT READS IS OF BULK AT MOST 1048576: true; the input reads as it did. -/
def intsOrderUptoRow : OpenClaim := { program := "ytblekbpchhhkkaa", sum := "d37c999809416248f1c33c9f24ae5cc0fd4ae1775d68b147efdccf7f53e20b63", func := "delver/delverlaw08.IntsOrder", spec := "intsOrder", apart := false, narrowed := true }
def IntsOrderUptoSaid : Prop := intsOrderUptoRow.holds Try.pinned (OpenSpec.upto intsOrderSpec)

/-- 'delverlaw08.IntsEdges', WHERE WHAT IT READS IS OF BULK AT MOST 1048576: true; the input reads as it did. -/
def intsEdgesUptoRow : OpenClaim := { program := "ytblekbpchhhkkaa", sum := "d37c999809416248f1c33c9f24ae5cc0fd4ae1775d68b147efdccf7f53e20b63", func := "delver/delverlaw08.IntsEdges", spec := "intsEdges", apart := false, narrowed := true }
def IntsEdgesUptoSaid : Prop := intsEdgesUptoRow.holds Try.pinned (OpenSpec.upto intsEdgesSpec)

/-- 'delverlaw08.IntsExact', WHERE WHAT IT READS IS OF BULK AT MOST 1048576: true; the input reads as it did. -/
def intsExactUptoRow : OpenClaim := { program := "ytblekbpchhhkkaa", sum := "d37c999809416248f1c33c9f24ae5cc0fd4ae1775d68b147efdccf7f53e20b63", func := "delver/delverlaw08.IntsExact", spec := "intsExact", apart := false, narrowed := true }
def IntsExactUptoSaid : Prop := intsExactUptoRow.holds Try.pinned (OpenSpec.upto intsExactSpec)

/-- 'delverlaw08.IntsSigns', WHERE WHAT IT READS IS OF BULK AT MOST 1048576: true; the input reads as it did. -/
def intsSignsUptoRow : OpenClaim := { program := "ytblekbpchhhkkaa", sum := "d37c999809416248f1c33c9f24ae5cc0fd4ae1775d68b147efdccf7f53e20b63", func := "delver/delverlaw08.IntsSigns", spec := "intsSigns", apart := false, narrowed := true }
def IntsSignsUptoSaid : Prop := intsSignsUptoRow.holds Try.pinned (OpenSpec.upto intsSignsSpec)

end Rows
end Go.Proofs.Ytblekbpchhhkkaa
