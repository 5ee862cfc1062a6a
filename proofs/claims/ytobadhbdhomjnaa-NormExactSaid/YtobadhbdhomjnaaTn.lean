/- Layer term by the logic, on: sums, multiples. -/
import Derived.Test.YtobadhbdhomjnaaTm
set_option linter.unusedVariables false
set_option linter.unusedSimpArgs false
namespace Go.Proofs.Ytobadhbdhomjnaa.Ax
open Go Go.RowKit
def keep (m : Int × Int) (l : List (Int × Int)) : List (Int × Int) := if m.2 = 0 then l else m :: l
def mg : List (Int × Int) → List (Int × Int) → List (Int × Int)
  | [], [] => []
  | a :: x, [] => keep a (mg x [])
  | [], b :: y => keep b (mg [] y)
  | a :: x, b :: y => if a.1 < b.1 then keep a (mg x (b :: y)) else if b.1 < a.1 then keep b (mg (a :: x) y) else keep (a.1, IntKind.i64.wrap (a.2 + b.2)) (mg x y)
termination_by x y => x.length + y.length
def sumF (a b : Int × List (Int × Int)) : Int × List (Int × Int) := (IntKind.i64.wrap (a.1 + b.1), mg a.2 b.2)
theorem keep_t {m : Int × Int} {o r t : List (Int × Int)} (h : (m.2 != 0) = true) (e : o ++ keep m r = t) : (o ++ [m]) ++ r = t := by
  have : m.2 ≠ 0 := by simpa using h
  rw [keep, if_neg this] at e; simpa using e
theorem keep_f {m : Int × Int} {o r t : List (Int × Int)} (h : (m.2 != 0) = false) (e : o ++ keep m r = t) : o ++ r = t := by
  have : m.2 = 0 := by simpa using h
  rwa [keep, if_pos this] at e
theorem mg_l (a : Int × Int) (x : List (Int × Int)) : mg (a :: x) [] = keep a (mg x []) := by rw [mg]
theorem mg_r (b : Int × Int) (y : List (Int × Int)) : mg [] (b :: y) = keep b (mg [] y) := by rw [mg]
theorem mg_lt {a b : Int × Int} (x y : List (Int × Int)) (h : decide (a.1 < b.1) = true) : mg (a :: x) (b :: y) = keep a (mg x (b :: y)) := by rw [mg, if_pos (of_decide_eq_true h)]
theorem mg_gt {a b : Int × Int} (x y : List (Int × Int)) (h : decide (a.1 < b.1) = false) (h2 : decide (b.1 < a.1) = true) : mg (a :: x) (b :: y) = keep b (mg (a :: x) y) := by rw [mg, if_neg (of_decide_eq_false h), if_pos (of_decide_eq_true h2)]
theorem mg_eq {a b : Int × Int} (x y : List (Int × Int)) (h : decide (a.1 < b.1) = false) (h2 : decide (b.1 < a.1) = false) : mg (a :: x) (b :: y) = keep (a.1, IntKind.i64.wrap (a.2 + b.2)) (mg x y) := by rw [mg, if_neg (of_decide_eq_false h), if_neg (of_decide_eq_false h2)]
theorem mg_nil : mg [] [] = [] := by rw [mg]
def term_sum : Ctr := { A := (Int × List (Int × Int)) × (Int × List (Int × Int)), enc := fun x => [termS x.1, termS x.2], dom := fun x => x.1.2.length ≤ 1000 ∧ x.2.2.length ≤ 1000, res := fun x id => termO (sumF x.1 x.2) id }
end Go.Proofs.Ytobadhbdhomjnaa.Ax
