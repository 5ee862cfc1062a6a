/- Layer norm by the logic: the short forms of constraints; whether one holds. -/
import Derived.Test.YtndndemnjmdanaaNm
set_option linter.unusedVariables false
set_option linter.unusedSimpArgs false
namespace Go.Proofs.Ytndndemnjmdanaa.Ax
open Go Go.RowKit
theorem mono_eq : EqSound Try.prog 55 (flatC (Int × Int) monoC) :=
  eq_flat [.int .i64, .int .i64] (Int × Int) monoC Try.underlying55 (by kernel_rfl) (by kernel_rfl) (by kernel_rfl) (fun _ => rfl)
theorem mono_eq_dec (u v : Int × Int) : cellsEq (monoC u) (monoC v) = decide (u = v) := by
  obtain ⟨a, b⟩ := u
  obtain ⟨c, d⟩ := v
  simp only [monoC, cellsEq, cellEq, Bool.and_true, Prod.mk.injEq]
  by_cases h1 : a = c <;> by_cases h2 : b = d <;> simp [h1, h2]
theorem list_ext_getD {α : Type} (d : α) {l k : List α} (hl : l.length = k.length) (h : ∀ j, j < l.length → l.getD j d = k.getD j d) : l = k := by
  apply List.ext_getElem hl
  intro i h1 h2
  have := h i h1
  simpa [List.getD, h1, h2] using this
def mono_Equal : Ctr := { A := List (Int × Int) × List (Int × Int), enc := fun x => [monos x.1, monos x.2], dom := fun x => x.1.length ≤ 4611686018427387904, res := fun x _ => B (decide (x.1 = x.2)) }
def term_Same : Ctr := { A := (Int × List (Int × Int)) × (Int × List (Int × Int)), enc := fun x => [termS x.1, termS x.2], dom := fun x => x.1.2.length ≤ 4611686018427387904, res := fun x _ => B (decide (x.1 = x.2)) }
def consE (c : (Int × List (Int × Int)) × Bool) : SV := .elt Unit 3 (fun _ => consC c) () [()] 0 0
def same_row (l : List ((Int × List (Int × Int)) × Bool)) : SV := .row ((Int × List (Int × Int)) × Bool) 3 consC ((0, []), false) l
def same_pred (v : (Int × List (Int × Int)) × Bool) (x : (Int × List (Int × Int)) × Bool) : Bool := decide (x = v)
def same_lit : Ctr := { A := ((Int × List (Int × Int)) × Bool) × ((Int × List (Int × Int)) × Bool), enc := fun x => (fun (x : (Int × List (Int × Int)) × Bool) => .agg (consC x)) x.1 :: (fun (v : (Int × List (Int × Int)) × Bool) => [consE v]) x.2, dom := fun x => x.1.1.2.length ≤ 4611686018427387904, res := fun x _ => B (same_pred x.2 x.1) }
end Go.Proofs.Ytndndemnjmdanaa.Ax
