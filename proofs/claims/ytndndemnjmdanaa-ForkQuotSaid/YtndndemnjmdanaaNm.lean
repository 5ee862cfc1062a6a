/- Layer norm by the logic: the short form of one constraint. -/
import Derived.Test.YtndndemnjmdanaaTz
set_option linter.unusedVariables false
set_option linter.unusedSimpArgs false
namespace Go.Proofs.Ytndndemnjmdanaa.Ax
open Go Go.RowKit
abbrev Cons := (Int × List (Int × Int)) × Bool
def consC (c : (Int × List (Int × Int)) × Bool) : List SV := [I c.1.1, monos c.1.2, B c.2]
def consS (c : (Int × List (Int × Int)) × Bool) : SV := .agg (consC c)
def consO (c : (Int × List (Int × Int)) × Bool) (id : Nat) : SV := .agg [I c.1.1, monosO c.1.2 id, B c.2]
def conses (l : List ((Int × List (Int × Int)) × Bool)) : SV := .row ((Int × List (Int × Int)) × Bool) 3 consC ((0, []), false) l
def consesO (l : List ((Int × List (Int × Int)) × Bool)) (id : Nat) : SV := .own ((Int × List (Int × Int)) × Bool) 3 consC ((0, []), false) l id
def alwaysF (c : (Int × List (Int × Int)) × Bool) : Int := if c.1.1 = 0 ∨ (c.1.1 < 0 ∧ c.2 = false) then 2 else 1
def norm_always : Ctr := { A := (Int × List (Int × Int)) × Bool, enc := fun c => [consS c], dom := fun _ => True, res := fun c _ => I (alwaysF c) }
theorem gcd_step (x y : Int) : Int.gcd y (x.tmod y) = Int.gcd x y := by
  unfold Int.gcd
  rw [Int.natAbs_tmod, Nat.gcd_comm y.natAbs, ← Nat.gcd_rec, Nat.gcd_comm]
def norm_divisor : Ctr := { A := Int × Int, enc := fun x => [I x.1, I x.2], dom := fun x => (-1152921504606846976 ≤ x.1 ∧ x.1 ≤ 1152921504606846976) ∧ -1152921504606846976 ≤ x.2 ∧ x.2 ≤ 1152921504606846976, res := fun x _ => I (Int.gcd x.1 x.2) }
def upF (a b : Int) : Int := if a.tmod b > 0 then a.tdiv b + 1 else a.tdiv b
def norm_up : Ctr := { A := Int × Int, enc := fun x => [I x.1, I x.2], dom := fun x => (-1152921504606846976 ≤ x.1 ∧ x.1 ≤ 1152921504606846976) ∧ 0 < x.2, res := fun x _ => I (upF x.1 x.2) }
def gL (g : Nat) : List (Int × Int) → Nat
  | [] => g
  | m :: r => gL (Int.gcd g m.2) r
def sgF (c : (Int × List (Int × Int)) × Bool) : Int := if c.2 = true ∧ (c.1.2.getD 0 (0, 0)).2 < 0 then -1 else 1
def oneF (c : (Int × List (Int × Int)) × Bool) : ((Int × List (Int × Int)) × Bool) × Int × Int :=
  if right c.1 then
    if c.1.2 = [] then (((0, []), false), alwaysF c, 0)
    else if c.2 = true ∧ c.1.1.tmod (gL 0 c.1.2) ≠ 0 then (((0, []), false), 1, 0)
    else (((sgF c * upF c.1.1 (gL 0 c.1.2), c.1.2.map fun m => (m.1, (sgF c * m.2).tdiv (gL 0 c.1.2))), c.2), 0, 0)
  else (((0, []), false), 0, 1)
theorem gL_le : ∀ (l : List (Int × Int)) (g : Nat) (lo : Int), ord lo l → g ≤ 1048576 → gL g l ≤ 1048576 ∧ (0 < g ∨ l ≠ [] → 0 < gL g l)
  | [], g, _, _, h => ⟨h, fun c => by rcases c with c | c; exact c; exact absurd rfl c⟩
  | m :: r, g, lo, ⟨a, b, c, d, e, f⟩, h => by
    have hp : 0 < Int.gcd g m.2 := Int.gcd_pos_of_ne_zero_right _ c
    have hl : Int.gcd g m.2 ≤ m.2.natAbs := Nat.le_of_dvd (by omega) (Nat.gcd_dvd_right _ _)
    obtain ⟨h1, h2⟩ := gL_le r (Int.gcd g m.2) m.1 f (by omega)
    exact ⟨h1, fun _ => h2 (.inl hp)⟩
def FW (sg : Int) (g : Nat) (m : Int × Int) : Int × Int := (m.1, IntKind.i64.wrap ((IntKind.i64.wrap (sg * m.2)).tdiv (g : Int)))
theorem map_step {α β : Type} (d : α) {l : List α} {i : Nat} {f : α → β} {o t : List β} (h : i < l.length) (e : o ++ (l.drop i).map f = t) : (o ++ [f (l.getD i d)]) ++ (l.drop (i + 1)).map f = t := by
  rw [drop_at d l i h] at e
  simpa using e
theorem of_decide_lt {i n : Nat} (h : decide ((i : Int) < (n : Int)) = true) : i < n := by have := of_decide_eq_true h; omega
theorem of_decide_ge {i n : Nat} (h : decide ((i : Int) < (n : Int)) = false) (h2 : i ≤ n) : i = n := by have := of_decide_eq_false h; omega
def norm_One : Ctr := { A := (Int × List (Int × Int)) × Bool, enc := fun c => [consS c], dom := fun _ => True, res := fun c id => .tup [consO (oneF c).1 id, I (oneF c).2.1, I (oneF c).2.2] }
end Go.Proofs.Ytndndemnjmdanaa.Ax
