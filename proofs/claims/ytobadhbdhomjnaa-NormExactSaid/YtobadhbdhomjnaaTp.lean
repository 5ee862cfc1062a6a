/- Layer term by the logic: multiples. -/
import Derived.Test.YtobadhbdhomjnaaTo
set_option linter.unusedVariables false
set_option linter.unusedSimpArgs false
namespace Go.Proofs.Ytobadhbdhomjnaa.Ax
open Go Go.RowKit
def scL (k : Int) : List (Int × Int) → List (Int × Int) × Bool
  | [] => ([], true)
  | m :: r => (keep (m.1, (timesF m.2 k 1048576).1) (scL k r).1, (timesF m.2 k 1048576).2 && (scL k r).2)
def scaleF (t : Int × List (Int × Int)) (k : Int) : (Int × List (Int × Int)) × Int :=
  if right t then if (timesF t.1 k 1099511627776).2 && (scL k t.2).2 then (((timesF t.1 k 1099511627776).1, (scL k t.2).1), 0) else ((0, []), 12) else ((0, []), 1)
def term_Scale : Ctr := { A := (Int × List (Int × Int)) × Int, enc := fun x => [termS x.1, I x.2], dom := fun _ => True, res := fun x id => .tup [termO (scaleF x.1 x.2).1 id, I (scaleF x.1 x.2).2] }
end Go.Proofs.Ytobadhbdhomjnaa.Ax
