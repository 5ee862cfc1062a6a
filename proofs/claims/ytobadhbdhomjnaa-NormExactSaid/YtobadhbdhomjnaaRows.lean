/-
  No cell of these rows narrows 'for every input' (looked for: loops, veiled, ifaces, maps, wideKeys, modest, calm, conditions, laid).
  DERIVED. THE GIVEN ROWS OF THIS SEAT. 6 by the template 'for every input the law returns true; each argument reads behind the call as it read before'; 0 by the template 'total and deterministic' (their statements: YtobadhbdhomjnaaTotals.lean).
  GIVEN WITH THE SEED: the statements are not yours to turn. If you find one false, say at which input.
  Laid BY PROGRAM, IN A SANDBOX (cutbox-rows.mjs): the forced cells as the released guide's own fill.sh prints them over the translation 17b231c23ad9dca7… (all of the seat's roots in one cut). By AI agents, Wed Nov 11 2026. No macro, syntax, notation, axiom, sorry.
-/
import Derived.Test.YtobadhbdhomjnaaChecked
import GoSem.Claim
import GoSem.ClaimJoined
import GoSem.ClaimMapViews
import Derived.JoinedTies
import Derived.KernelRfl
namespace Go.Proofs.Ytobadhbdhomjnaa
/- THE CELL 'sum', in the pinned program and in every row, IS THE sha256 OF THE DUMP (.gsa) THAT YtobadhbdhomjnaaProg.lean LOADS. Nothing in Lean hashes anything: it is a label: what it is worth is what the hold of that sum in a sandbox is worth. -/
noncomputable def Try.pinned : Pinned := { name := "ytobadhbdhomjnaa", sum := "17b231c23ad9dca71d8c60b11dee08fae3ea0420654abd720d8eb3b8466c384b", checked := Try.checked }
namespace Rows
def none {H : Type} : Left H := { results := [], args := [] }

/-- 'delverlaw14.NormTimes': WHATEVER THE INPUT: true; the input reads as it did. -/
def normTimesSpec : ChangeSpec := { name := "normTimes", fn := fun _ => fun
  | [d1, d2] => { results := [.lit (.bool true)], args := [d1, d2] }
  | _ => none }
def normTimesRow : OpenClaim := { program := "ytobadhbdhomjnaa", sum := "17b231c23ad9dca71d8c60b11dee08fae3ea0420654abd720d8eb3b8466c384b", func := "delver/delverlaw14.NormTimes", spec := "normTimes", unfollowed := true, recurses := true, apart := false }
def NormTimesSaid : Prop := normTimesRow.holds Try.pinned (OpenSpec.ofChange normTimesSpec)

/-- ITS FALSE NEIGHBOUR: 'it returns false'. Refute it at one input. -/
def normTimesWrong : ChangeSpec := { name := "normTimes", fn := fun _ => fun
  | [d1, d2] => { results := [.lit (.bool false)], args := [d1, d2] }
  | _ => none }
def NormTimesWrongFalsely : Prop := normTimesRow.holds Try.pinned (OpenSpec.ofChange normTimesWrong)

/-- 'delverlaw14.NormShort': WHATEVER THE INPUT: true; the input reads as it did. -/
def normShortSpec : ChangeSpec := { name := "normShort", fn := fun _ => fun
  | [d1, d2] => { results := [.lit (.bool true)], args := [d1, d2] }
  | _ => none }
def normShortRow : OpenClaim := { program := "ytobadhbdhomjnaa", sum := "17b231c23ad9dca71d8c60b11dee08fae3ea0420654abd720d8eb3b8466c384b", func := "delver/delverlaw14.NormShort", spec := "normShort", unfollowed := true, recurses := true, apart := false }
def NormShortSaid : Prop := normShortRow.holds Try.pinned (OpenSpec.ofChange normShortSpec)

/-- ITS FALSE NEIGHBOUR: 'it returns false'. Refute it at one input. -/
def normShortWrong : ChangeSpec := { name := "normShort", fn := fun _ => fun
  | [d1, d2] => { results := [.lit (.bool false)], args := [d1, d2] }
  | _ => none }
def NormShortWrongFalsely : Prop := normShortRow.holds Try.pinned (OpenSpec.ofChange normShortWrong)

/-- 'delverlaw14.NormOrder': WHATEVER THE INPUT: true; the input reads as it did. -/
def normOrderSpec : ChangeSpec := { name := "normOrder", fn := fun _ => fun
  | [d] => { results := [.lit (.bool true)], args := [d] }
  | _ => none }
def normOrderRow : OpenClaim := { program := "ytobadhbdhomjnaa", sum := "17b231c23ad9dca71d8c60b11dee08fae3ea0420654abd720d8eb3b8466c384b", func := "delver/delverlaw14.NormOrder", spec := "normOrder", unfollowed := true, recurses := true, apart := false }
def NormOrderSaid : Prop := normOrderRow.holds Try.pinned (OpenSpec.ofChange normOrderSpec)

/-- ITS FALSE NEIGHBOUR: 'it returns false'. Refute it at one input. -/
def normOrderWrong : ChangeSpec := { name := "normOrder", fn := fun _ => fun
  | [d] => { results := [.lit (.bool false)], args := [d] }
  | _ => none }
def NormOrderWrongFalsely : Prop := normOrderRow.holds Try.pinned (OpenSpec.ofChange normOrderWrong)

/-- 'delverlaw14.NormExact': WHATEVER THE INPUT: true; the input reads as it did. -/
def normExactSpec : ChangeSpec := { name := "normExact", fn := fun _ => fun
  | [d1, d2] => { results := [.lit (.bool true)], args := [d1, d2] }
  | _ => none }
def normExactRow : OpenClaim := { program := "ytobadhbdhomjnaa", sum := "17b231c23ad9dca71d8c60b11dee08fae3ea0420654abd720d8eb3b8466c384b", func := "delver/delverlaw14.NormExact", spec := "normExact", unfollowed := true, recurses := true, apart := false }
def NormExactSaid : Prop := normExactRow.holds Try.pinned (OpenSpec.ofChange normExactSpec)

/-- ITS FALSE NEIGHBOUR: 'it returns false'. Refute it at one input. -/
def normExactWrong : ChangeSpec := { name := "normExact", fn := fun _ => fun
  | [d1, d2] => { results := [.lit (.bool false)], args := [d1, d2] }
  | _ => none }
def NormExactWrongFalsely : Prop := normExactRow.holds Try.pinned (OpenSpec.ofChange normExactWrong)

/-- 'delverlaw14.NormHolds': WHATEVER THE INPUT: true; the input reads as it did. -/
def normHoldsSpec : ChangeSpec := { name := "normHolds", fn := fun _ => fun
  | [d1, d2] => { results := [.lit (.bool true)], args := [d1, d2] }
  | _ => none }
def normHoldsRow : OpenClaim := { program := "ytobadhbdhomjnaa", sum := "17b231c23ad9dca71d8c60b11dee08fae3ea0420654abd720d8eb3b8466c384b", func := "delver/delverlaw14.NormHolds", spec := "normHolds", unfollowed := true, recurses := true, apart := false }
def NormHoldsSaid : Prop := normHoldsRow.holds Try.pinned (OpenSpec.ofChange normHoldsSpec)

/-- ITS FALSE NEIGHBOUR: 'it returns false'. Refute it at one input. -/
def normHoldsWrong : ChangeSpec := { name := "normHolds", fn := fun _ => fun
  | [d1, d2] => { results := [.lit (.bool false)], args := [d1, d2] }
  | _ => none }
def NormHoldsWrongFalsely : Prop := normHoldsRow.holds Try.pinned (OpenSpec.ofChange normHoldsWrong)

/-- 'delverlaw14.NormAll': WHATEVER THE INPUT: true; the input reads as it did. -/
def normAllSpec : ChangeSpec := { name := "normAll", fn := fun _ => fun
  | [d1, d2] => { results := [.lit (.bool true)], args := [d1, d2] }
  | _ => none }
def normAllRow : OpenClaim := { program := "ytobadhbdhomjnaa", sum := "17b231c23ad9dca71d8c60b11dee08fae3ea0420654abd720d8eb3b8466c384b", func := "delver/delverlaw14.NormAll", spec := "normAll", unfollowed := true, recurses := true, apart := false }
def NormAllSaid : Prop := normAllRow.holds Try.pinned (OpenSpec.ofChange normAllSpec)

/-- ITS FALSE NEIGHBOUR: 'it returns false'. Refute it at one input. -/
def normAllWrong : ChangeSpec := { name := "normAll", fn := fun _ => fun
  | [d1, d2] => { results := [.lit (.bool false)], args := [d1, d2] }
  | _ => none }
def NormAllWrongFalsely : Prop := normAllRow.holds Try.pinned (OpenSpec.ofChange normAllWrong)

/- THE SECOND FORM. 'bulk': how many values and letters a reading holds, each counted each time it is reached (what is shared counts as often as it is met; a slice's spare places count too). A statement '..UptoSaid' is the law's where the arguments, and the package variables that the reading takes, are together of bulk at most 1048576: NARROWER than '..Said'. Prove '..Said' where nothing that the law and all that it calls make is longer than what came in: it says more and counts as full. Else prove '..UptoSaid'. A law counts once. -/
mutual
def uptoBulk {H : Type} : DataW H → Nat
  | .lit (.string bytes) => bytes.length + 1
  | .lit _ => 1
  | .nil => 1
  | .ptr d => uptoBulk d + 1
  | .slice elems spare => uptoBulkAll elems + uptoBulkAll spare + 1
  | .agg parts => uptoBulkAll parts + 1
  | .iface _ d => uptoBulk d + 1
  | .map entries => uptoBulkEntries entries + 1
  | .held _ => 1
def uptoBulkAll {H : Type} : List (DataW H) → Nat
  | [] => 0
  | d :: r => uptoBulk d + uptoBulkAll r
def uptoBulkEntries {H : Type} : List (Lit × DataW H) → Nat
  | [] => 0
  | x :: r => uptoBulkEntry x + uptoBulkEntries r
def uptoBulkEntry {H : Type} : Lit × DataW H → Nat
  | (.string bytes, d) => bytes.length + uptoBulk d + 1
  | (_, d) => uptoBulk d + 1
 end
def uptoSmall : (H : Type) → List (DataW H) → Bool := fun _ ds => decide (uptoBulkAll ds ≤ 1048576)
def OpenSpec.upto (s : _root_.Go.ChangeSpec) : _root_.Go.OpenSpec := { _root_.Go.OpenSpec.ofChange s with cond := some uptoSmall }

/-- 'delverlaw14.NormTimes', WHERE WHAT IT READS IS OF BULK AT MOST 1048576: true; the input reads as it did. -/
def normTimesUptoRow : OpenClaim := { program := "ytobadhbdhomjnaa", sum := "17b231c23ad9dca71d8c60b11dee08fae3ea0420654abd720d8eb3b8466c384b", func := "delver/delverlaw14.NormTimes", spec := "normTimes", unfollowed := true, recurses := true, apart := false, narrowed := true }
def NormTimesUptoSaid : Prop := normTimesUptoRow.holds Try.pinned (OpenSpec.upto normTimesSpec)

/-- 'delverlaw14.NormShort', WHERE WHAT IT READS IS OF BULK AT MOST 1048576: true; the input reads as it did. -/
def normShortUptoRow : OpenClaim := { program := "ytobadhbdhomjnaa", sum := "17b231c23ad9dca71d8c60b11dee08fae3ea0420654abd720d8eb3b8466c384b", func := "delver/delverlaw14.NormShort", spec := "normShort", unfollowed := true, recurses := true, apart := false, narrowed := true }
def NormShortUptoSaid : Prop := normShortUptoRow.holds Try.pinned (OpenSpec.upto normShortSpec)

/-- 'delverlaw14.NormOrder', WHERE WHAT IT READS IS OF BULK AT MOST 1048576: true; the input reads as it did. -/
def normOrderUptoRow : OpenClaim := { program := "ytobadhbdhomjnaa", sum := "17b231c23ad9dca71d8c60b11dee08fae3ea0420654abd720d8eb3b8466c384b", func := "delver/delverlaw14.NormOrder", spec := "normOrder", unfollowed := true, recurses := true, apart := false, narrowed := true }
def NormOrderUptoSaid : Prop := normOrderUptoRow.holds Try.pinned (OpenSpec.upto normOrderSpec)

/-- 'delverlaw14.NormExact', WHERE WHAT IT READS IS OF BULK AT MOST 1048576: true; the input reads as it did. -/
def normExactUptoRow : OpenClaim := { program := "ytobadhbdhomjnaa", sum := "17b231c23ad9dca71d8c60b11dee08fae3ea0420654abd720d8eb3b8466c384b", func := "delver/delverlaw14.NormExact", spec := "normExact", unfollowed := true, recurses := true, apart := false, narrowed := true }
def NormExactUptoSaid : Prop := normExactUptoRow.holds Try.pinned (OpenSpec.upto normExactSpec)

/-- 'delverlaw14.NormHolds', WHERE WHAT IT READS IS OF BULK AT MOST 1048576: true; the input reads as it did. -/
def normHoldsUptoRow : OpenClaim := { program := "ytobadhbdhomjnaa", sum := "17b231c23ad9dca71d8c60b11dee08fae3ea0420654abd720d8eb3b8466c384b", func := "delver/delverlaw14.NormHolds", spec := "normHolds", unfollowed := true, recurses := true, apart := false, narrowed := true }
def NormHoldsUptoSaid : Prop := normHoldsUptoRow.holds Try.pinned (OpenSpec.upto normHoldsSpec)

/-- 'delverlaw14.NormAll', WHERE WHAT IT READS IS OF BULK AT MOST 1048576: true; the input reads as it did. -/
def normAllUptoRow : OpenClaim := { program := "ytobadhbdhomjnaa", sum := "17b231c23ad9dca71d8c60b11dee08fae3ea0420654abd720d8eb3b8466c384b", func := "delver/delverlaw14.NormAll", spec := "normAll", unfollowed := true, recurses := true, apart := false, narrowed := true }
def NormAllUptoSaid : Prop := normAllUptoRow.holds Try.pinned (OpenSpec.upto normAllSpec)

end Rows
end Go.Proofs.Ytobadhbdhomjnaa
