/- Layer show: instructions. -/
import Derived.Test.YtimhbimpaiiceaaDoorSf
set_option linter.unusedVariables false
set_option linter.unusedSimpArgs false
namespace Go.Proofs.YtimhbimpaiiceaaDoor.Ax
open Go Go.RowKit
def instrF (o n : Int) (a b : List UInt8) : Bool := inF o 0 43 && inF n (numsF o).1 (numsF o).2.1 && namedF a (decide (namesF o > 0)) && namedF b (decide (namesF o > 1))
def instrC : Ctr := { A := Int × Int × List UInt8 × List UInt8, enc := fun x => [.agg [I x.1, I x.2.1, X x.2.2.1, X x.2.2.2]], dom := fun x => x.2.2.1.length ≤ 4611686018427387904 ∧ x.2.2.2.length ≤ 4611686018427387904, res := fun x _ => B (instrF x.1 x.2.1 x.2.2.1 x.2.2.2), gl := tabS }
end Go.Proofs.YtimhbimpaiiceaaDoor.Ax
