/- Layer norm by the logic: the short forms of constraints. -/
import Derived.Test.YtndndemnjmdanaaNa
set_option linter.unusedVariables false
set_option linter.unusedSimpArgs false
namespace Go.Proofs.Ytndndemnjmdanaa.Ax
open Go Go.RowKit
def aL : Bool → List ((Int × List (Int × Int)) × Bool) → List ((Int × List (Int × Int)) × Bool) → List ((Int × List (Int × Int)) × Bool) × Int × Int
  | nv, out, [] => if nv then ([], 1, 0) else if out = [] then ([], 2, 0) else (out, 0, 0)
  | nv, out, c :: r => if (oneF c).2.2 ≠ 0 then ([], 0, (oneF c).2.2) else aL (nv || (oneF c).2.1 == 1) (if ((oneF c).2.1 == 0 && !out.any (same_pred (oneF c).1)) = true then out ++ [(oneF c).1] else out) r
def allF (l : List ((Int × List (Int × Int)) × Bool)) : List ((Int × List (Int × Int)) × Bool) × Int × Int := aL false [] l
theorem oneF_len (c : (Int × List (Int × Int)) × Bool) : (oneF c).1.1.2.length ≤ 40 := by
  unfold oneF
  split
  · rename_i r
    have := r.2.2.1
    split
    · simp
    · split
      · simp
      · simpa using this
  · simp
def norm_All : Ctr := { A := List ((Int × List (Int × Int)) × Bool), enc := fun l => [conses l], dom := fun l => l.length ≤ 1000000, res := fun l id => .tup [consesO (allF l).1 id, I (allF l).2.1, I (allF l).2.2] }
end Go.Proofs.Ytndndemnjmdanaa.Ax
