/- Layer show: fields, catches, names of instructions. -/
import Derived.Test.YtimhbimpaiiceaaDoorSe
set_option linter.unusedVariables false
set_option linter.unusedSimpArgs false
namespace Go.Proofs.YtimhbimpaiiceaaDoor.Ax
open Go Go.RowKit
def catchF (l : List UInt8) (a b c : Int) : Bool := freshF l && inF a 0 48 && inF b 0 48 && inF c 0 48
def catchC : Ctr := { A := List UInt8 × Int × Int × Int, enc := fun x => [.agg [X x.1, I x.2.1, I x.2.2.1, I x.2.2.2]], dom := fun x => x.1.length ≤ 4611686018427387904, res := fun x _ => B (catchF x.1 x.2.1 x.2.2.1 x.2.2.2), gl := tabS }
def fieldC : Ctr := { A := List UInt8 × Int × List UInt8 × Bool, enc := fun x => [.agg [X x.1, I x.2.1, X x.2.2.1, B x.2.2.2]], dom := fun x => x.1.length ≤ 4611686018427387904 ∧ x.2.2.1.length ≤ 4611686018427387904, res := fun x _ => B (freshF x.1 && typedF x.2.1 x.2.2.1), gl := tabS }
def namedF (l : List UInt8) (b : Bool) : Bool := if b then freshF l else decide (l = [])
def namedC : Ctr := { A := List UInt8 × Bool, enc := fun x => [X x.1, B x.2], dom := fun x => x.1.length ≤ 4611686018427387904, res := fun x _ => B (namedF x.1 x.2), gl := tabS }
end Go.Proofs.YtimhbimpaiiceaaDoor.Ax
