/-
  No cell of these rows narrows 'for every input' (looked for: loops, veiled, ifaces, maps, wideKeys, modest, calm, conditions, laid).
  DERIVED. THE GIVEN ROWS OF THIS SEAT. 4 by the template 'for every input the law returns true; each argument reads behind the call as it read before'; 0 by the template 'total and deterministic' (their statements: YtndndemnjmdanaaTotals.lean).
  GIVEN WITH THE SEED: the statements are not yours to turn. If you find one false, say at which input.
  Laid BY PROGRAM, IN A SANDBOX (cutbox-rows.mjs): the forced cells as the released guide's own fill.sh prints them over the translation f970d9a1dd372307… (all of the seat's roots in one cut). By AI agents, Wed Nov 11 2026. No macro, syntax, notation, axiom, sorry.
-/
import Derived.Test.YtndndemnjmdanaaChecked
import GoSem.Claim
import GoSem.ClaimJoined
import GoSem.ClaimMapViews
import Derived.JoinedTies
import Derived.KernelRfl
namespace Go.Proofs.Ytndndemnjmdanaa
/- THE CELL 'sum', in the pinned program and in every row, IS THE sha256 OF THE DUMP (.gsa) THAT YtndndemnjmdanaaProg.lean LOADS. Nothing in Lean hashes anything: it is a label: what it is worth is what the hold of that sum in a sandbox is worth. -/
noncomputable def Try.pinned : Pinned := { name := "ytndndemnjmdanaa", sum := "f970d9a1dd37230702eca928f191b1030c24b1e8eaf935cf05d1cec53d7d1b81", checked := Try.checked }
namespace Rows
def none {H : Type} : Left H := { results := [], args := [] }

/-- 'delverlaw20.ForkCounts': WHATEVER THE INPUT: true; the input reads as it did. -/
def forkCountsSpec : ChangeSpec := { name := "forkCounts", fn := fun _ => fun
  | [d1, d2, d3, d4] => { results := [.lit (.bool true)], args := [d1, d2, d3, d4] }
  | _ => none }
def forkCountsRow : OpenClaim := { program := "ytndndemnjmdanaa", sum := "f970d9a1dd37230702eca928f191b1030c24b1e8eaf935cf05d1cec53d7d1b81", func := "delver/delverlaw20.ForkCounts", spec := "forkCounts", apart := false }
def ForkCountsSaid : Prop := forkCountsRow.holds Try.pinned (OpenSpec.ofChange forkCountsSpec)

/-- ITS FALSE NEIGHBOUR: 'it returns false'. Refute it at one input. -/
def forkCountsWrong : ChangeSpec := { name := "forkCounts", fn := fun _ => fun
  | [d1, d2, d3, d4] => { results := [.lit (.bool false)], args := [d1, d2, d3, d4] }
  | _ => none }
def ForkCountsWrongFalsely : Prop := forkCountsRow.holds Try.pinned (OpenSpec.ofChange forkCountsWrong)

/-- 'delverlaw20.ForkRight': WHATEVER THE INPUT: true; the input reads as it did. -/
def forkRightSpec : ChangeSpec := { name := "forkRight", fn := fun _ => fun
  | [d1, d2] => { results := [.lit (.bool true)], args := [d1, d2] }
  | _ => none }
def forkRightRow : OpenClaim := { program := "ytndndemnjmdanaa", sum := "f970d9a1dd37230702eca928f191b1030c24b1e8eaf935cf05d1cec53d7d1b81", func := "delver/delverlaw20.ForkRight", spec := "forkRight", apart := false }
def ForkRightSaid : Prop := forkRightRow.holds Try.pinned (OpenSpec.ofChange forkRightSpec)

/-- ITS FALSE NEIGHBOUR: 'it returns false'. Refute it at one input. -/
def forkRightWrong : ChangeSpec := { name := "forkRight", fn := fun _ => fun
  | [d1, d2] => { results := [.lit (.bool false)], args := [d1, d2] }
  | _ => none }
def ForkRightWrongFalsely : Prop := forkRightRow.holds Try.pinned (OpenSpec.ofChange forkRightWrong)

/-- 'delverlaw20.ForkParts': WHATEVER THE INPUT: true; the input reads as it did. -/
def forkPartsSpec : ChangeSpec := { name := "forkParts", fn := fun _ => fun
  | [d1, d2, d3] => { results := [.lit (.bool true)], args := [d1, d2, d3] }
  | _ => none }
def forkPartsRow : OpenClaim := { program := "ytndndemnjmdanaa", sum := "f970d9a1dd37230702eca928f191b1030c24b1e8eaf935cf05d1cec53d7d1b81", func := "delver/delverlaw20.ForkParts", spec := "forkParts", unfollowed := true, recurses := true, apart := false }
def ForkPartsSaid : Prop := forkPartsRow.holds Try.pinned (OpenSpec.ofChange forkPartsSpec)

/-- ITS FALSE NEIGHBOUR: 'it returns false'. Refute it at one input. -/
def forkPartsWrong : ChangeSpec := { name := "forkParts", fn := fun _ => fun
  | [d1, d2, d3] => { results := [.lit (.bool false)], args := [d1, d2, d3] }
  | _ => none }
def ForkPartsWrongFalsely : Prop := forkPartsRow.holds Try.pinned (OpenSpec.ofChange forkPartsWrong)

/-- 'delverlaw20.ForkQuot': WHATEVER THE INPUT: true; the input reads as it did. -/
def forkQuotSpec : ChangeSpec := { name := "forkQuot", fn := fun _ => fun
  | [d1, d2, d3, d4, d5] => { results := [.lit (.bool true)], args := [d1, d2, d3, d4, d5] }
  | _ => none }
def forkQuotRow : OpenClaim := { program := "ytndndemnjmdanaa", sum := "f970d9a1dd37230702eca928f191b1030c24b1e8eaf935cf05d1cec53d7d1b81", func := "delver/delverlaw20.ForkQuot", spec := "forkQuot", unfollowed := true, recurses := true, apart := false }
def ForkQuotSaid : Prop := forkQuotRow.holds Try.pinned (OpenSpec.ofChange forkQuotSpec)

/-- ITS FALSE NEIGHBOUR: 'it returns false'. Refute it at one input. -/
def forkQuotWrong : ChangeSpec := { name := "forkQuot", fn := fun _ => fun
  | [d1, d2, d3, d4, d5] => { results := [.lit (.bool false)], args := [d1, d2, d3, d4, d5] }
  | _ => none }
def ForkQuotWrongFalsely : Prop := forkQuotRow.holds Try.pinned (OpenSpec.ofChange forkQuotWrong)

/- THE SECOND FORM. 'bulk': how many values and letters a reading holds, each counted each time it is reached (what is shared counts as often as it is met; a slice's spare places count too). A statement '..UptoSaid' is the law's where the arguments, and the package variables that the reading takes, are together of bulk at most 1048576: NARROWER than '..Said'. Prove '..Said' where nothing that the law and all that it calls make is longer than what came in: it says more and counts as full. Else prove '..UptoSaid'. A law counts once. -/
mutual
def uptoBulk {H : Type} : DataW H → Nat
  | .lit (.string bytes) => bytes.length + 1
  | .lit _ => 1
  | .nil => 1
  | .ptr d => uptoBulk d + 1
  | .slice elems spare => uptoBulkAll elems + uptoBulkAll spare + 1
  | .agg parts => uptoBulkAll parts + 1
  | .iface _ d => uptoBulk d + 1
  | .map entries => uptoBulkEntries entries + 1
  | .held _ => 1
def uptoBulkAll {H : Type} : List (DataW H) → Nat
  | [] => 0
  | d :: r => uptoBulk d + uptoBulkAll r
def uptoBulkEntries {H : Type} : List (Lit × DataW H) → Nat
  | [] => 0
  | x :: r => uptoBulkEntry x + uptoBulkEntries r
def uptoBulkEntry {H : Type} : Lit × DataW H → Nat
  | (.string bytes, d) => bytes.length + uptoBulk d + 1
  | (_, d) => uptoBulk d + 1
 end
def uptoSmall : (H : Type) → List (DataW H) → Bool := fun _ ds => decide (uptoBulkAll ds ≤ 1048576)
def OpenSpec.upto (s : _root_.Go.ChangeSpec) : _root_.Go.OpenSpec := { _root_.Go.OpenSpec.ofChange s with cond := some uptoSmall }

/-- 'delverlaw20.ForkCounts', WHERE WHAT IT READS IS OF BULK AT MOST 1048576: true; the input reads as it did. -/
def forkCountsUptoRow : OpenClaim := { program := "ytndndemnjmdanaa", sum := "f970d9a1dd37230702eca928f191b1030c24b1e8eaf935cf05d1cec53d7d1b81", func := "delver/delverlaw20.ForkCounts", spec := "forkCounts", apart := false, narrowed := true }
def ForkCountsUptoSaid : Prop := forkCountsUptoRow.holds Try.pinned (OpenSpec.upto forkCountsSpec)

/-- 'delverlaw20.ForkRight', WHERE WHAT IT READS IS OF BULK AT MOST 1048576: true; the input reads as it did. -/
def forkRightUptoRow : OpenClaim := { program := "ytndndemnjmdanaa", sum := "f970d9a1dd37230702eca928f191b1030c24b1e8eaf935cf05d1cec53d7d1b81", func := "delver/delverlaw20.ForkRight", spec := "forkRight", apart := false, narrowed := true }
def ForkRightUptoSaid : Prop := forkRightUptoRow.holds Try.pinned (OpenSpec.upto forkRightSpec)

/-- 'delverlaw20.ForkParts', WHERE WHAT IT READS IS OF BULK AT MOST 1048576: true; the input reads as it did. -/
def forkPartsUptoRow : OpenClaim := { program := "ytndndemnjmdanaa", sum := "f970d9a1dd37230702eca928f191b1030c24b1e8eaf935cf05d1cec53d7d1b81", func := "delver/delverlaw20.ForkParts", spec := "forkParts", unfollowed := true, recurses := true, apart := false, narrowed := true }
def ForkPartsUptoSaid : Prop := forkPartsUptoRow.holds Try.pinned (OpenSpec.upto forkPartsSpec)

/-- 'delverlaw20.ForkQuot', WHERE WHAT IT READS IS OF BULK AT MOST 1048576: true; the input reads as it did. -/
def forkQuotUptoRow : OpenClaim := { program := "ytndndemnjmdanaa", sum := "f970d9a1dd37230702eca928f191b1030c24b1e8eaf935cf05d1cec53d7d1b81", func := "delver/delverlaw20.ForkQuot", spec := "forkQuot", unfollowed := true, recurses := true, apart := false, narrowed := true }
def ForkQuotUptoSaid : Prop := forkQuotUptoRow.holds Try.pinned (OpenSpec.upto forkQuotSpec)

end Rows
end Go.Proofs.Ytndndemnjmdanaa
