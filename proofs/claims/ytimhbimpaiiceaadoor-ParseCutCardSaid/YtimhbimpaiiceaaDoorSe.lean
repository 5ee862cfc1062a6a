/- Layer show: what instructions have. -/
import Derived.Test.YtimhbimpaiiceaaDoorSd
set_option linter.unusedVariables false
set_option linter.unusedSimpArgs false
namespace Go.Proofs.YtimhbimpaiiceaaDoor.Ax
open Go Go.RowKit
theorem noTF {b : Bool} (h : b = true) (c : b = false) : False := by rw [h] at c; cases c
def inF (n lo hi : Int) : Bool := decide (lo ≤ n ∧ n ≤ hi)
def inC : Ctr := { A := Int × Int × Int, enc := fun x => [I x.1, I x.2.1, I x.2.2], dom := fun _ => True, res := fun x _ => B (inF x.1 x.2.1 x.2.2) }
def jumpF (n : Int) : Bool := decide (14 ≤ n ∧ n ≤ 26)
def jumpC : Ctr := { A := Int, enc := fun x => [I x], dom := fun _ => True, res := fun x _ => B (jumpF x) }
theorem jump_ok : CtrSound Tryd.prog 90 jumpC :=
  ctr_of_ax (env_ok tys_ok (eqs := []) trivial (cs := []) trivial) mixed _ Tryd.func90 (by kernel_rfl) rfl (fun _ _ => Nat.le_of_ble_eq_true rfl) fun (n : Int) id _ => by
    refine ⟨fun h => ?_, fun h => ?_⟩
    · have h1 : n ≥ 14 := of_decide_eq_true h
      exact ⟨.bool (by show decide (n ≤ 26) = jumpF n; unfold jumpF; rw [Bool.eq_iff_iff]; simp; omega), rfl⟩
    · have h1 : ¬ n ≥ 14 := of_decide_eq_false h
      exact ⟨.bff (by unfold jumpF; simp; omega), rfl⟩
def numsF (n : Int) : Int × Int × Bool := if n = 1 then (-2147483648, 2147483647, true) else if n = 3 ∨ n = 4 then (0, 7, true) else if jumpF n then (0, 47, true) else (0, 0, false)
def numsC : Ctr := { A := Int, enc := fun x => [I x], dom := fun _ => True, res := fun x _ => .tup [I (numsF x).1, I (numsF x).2.1, B (numsF x).2.2] }
theorem nums_ok : CtrSound Tryd.prog 79 numsC :=
  ctr_of_ax (env_ok tys_ok (eqs := []) trivial (cs := [(90, jumpC)]) ⟨jump_ok, trivial⟩) mixed _ Tryd.func79 (by kernel_rfl) rfl (fun _ _ => Nat.le_of_ble_eq_true rfl) fun (n : Int) id _ => by
    have fin : ∀ (a b : Int) (c : Bool) (s : SV), numsF n = (a, b, c) → Sub s (B c) → Sub (.tup [I a, I b, s]) (.tup [I (numsF n).1, I (numsF n).2.1, B (numsF n).2.2]) := fun a b c s e h => by rw [e]; exact .tup3 (.refl _) (.refl _) h
    refine ⟨fun h => ?_, fun h => ?_⟩
    · exact ⟨fin _ _ true _ (if_pos (eqT h)) .tt, rfl⟩
    have h1 := eqF h
    refine ⟨fun h => ?_, fun h => ?_⟩
    · exact ⟨fin _ _ true _ ((if_neg h1).trans (if_pos (.inl (eqT h)))) .tt, rfl⟩
    have h3 := eqF h
    refine ⟨fun h => ?_, fun h => ?_⟩
    · exact ⟨fin _ _ true _ ((if_neg h1).trans (if_pos (.inr (eqT h)))) .tt, rfl⟩
    have h4 := eqF h
    refine ⟨n, ⟨.refl _, trivial⟩, rfl, trivial, ?_⟩
    refine ⟨fun h => ?_, fun h => ?_⟩
    · exact ⟨fin _ _ true _ ((if_neg h1).trans ((if_neg (fun c => c.elim h3 h4)).trans (if_pos h))) .tt, rfl⟩
    · exact ⟨fin _ _ false _ ((if_neg h1).trans ((if_neg (fun c => c.elim h3 h4)).trans (if_neg (by rw [show jumpF n = false from h]; decide)))) .ff, rfl⟩
def namesF (n : Int) : Int := if n = 27 ∨ n = 33 ∨ n = 37 ∨ n = 38 then 1 else if n = 28 ∨ n = 29 ∨ n = 30 ∨ n = 31 ∨ n = 39 ∨ n = 40 then 2 else 0
def namesC : Ctr := { A := Int, enc := fun x => [I x], dom := fun _ => True, res := fun x _ => I (namesF x) }
theorem names_ok : CtrSound Tryd.prog 80 namesC :=
  ctr_of_ax (env_ok tys_ok (eqs := []) trivial (cs := []) trivial) mixed _ Tryd.func80 (by kernel_rfl) rfl (fun _ _ => Nat.le_of_ble_eq_true rfl) fun (n : Int) id _ => by
    have one : (n = 27 ∨ n = 33 ∨ n = 37 ∨ n = 38) → 1 = namesF n := fun h => (if_pos h).symm
    have two : (n = 28 ∨ n = 29 ∨ n = 30 ∨ n = 31 ∨ n = 39 ∨ n = 40) → 2 = namesF n := fun h => by unfold namesF; rw [if_neg (by omega), if_pos h]
    refine ⟨fun h => ⟨fun _ => ⟨.int (one (.inl (eqT h))), rfl⟩, fun c => (noTF h c).elim⟩, fun h1 => ?_⟩
    refine ⟨fun h => ⟨fun _ => ⟨.int (one (.inr (.inl (eqT h)))), rfl⟩, fun c => (noTF h c).elim⟩, fun h2 => ?_⟩
    refine ⟨fun h => ⟨fun _ => ⟨.int (one (.inr (.inr (.inl (eqT h))))), rfl⟩, fun c => (noTF h c).elim⟩, fun h3 => ?_⟩
    refine ⟨fun h => ⟨.int (one (.inr (.inr (.inr (eqT h))))), rfl⟩, fun h4 => ?_⟩
    refine ⟨fun h => ⟨fun _ => ⟨.int (two (.inl (eqT h))), rfl⟩, fun c => (noTF h c).elim⟩, fun h5 => ?_⟩
    refine ⟨fun h => ⟨fun _ => ⟨.int (two (.inr (.inl (eqT h)))), rfl⟩, fun c => (noTF h c).elim⟩, fun h6 => ?_⟩
    refine ⟨fun h => ⟨fun _ => ⟨.int (two (.inr (.inr (.inl (eqT h))))), rfl⟩, fun c => (noTF h c).elim⟩, fun h7 => ?_⟩
    refine ⟨fun h => ⟨fun _ => ⟨.int (two (.inr (.inr (.inr (.inl (eqT h)))))), rfl⟩, fun c => (noTF h c).elim⟩, fun h8 => ?_⟩
    refine ⟨fun h => ⟨fun _ => ⟨.int (two (.inr (.inr (.inr (.inr (.inl (eqT h))))))), rfl⟩, fun c => (noTF h c).elim⟩, fun h9 => ?_⟩
    refine ⟨fun h => ⟨.int (two (.inr (.inr (.inr (.inr (.inr (eqT h))))))), rfl⟩, fun h10 => ?_⟩
    have e1 := eqF h1; have e2 := eqF h2; have e3 := eqF h3; have e4 := eqF h4; have e5 := eqF h5; have e6 := eqF h6; have e7 := eqF h7; have e8 := eqF h8; have e9 := eqF h9; have e10 := eqF h10
    exact ⟨.int (by unfold namesF; rw [if_neg (by omega), if_neg (by omega)]), rfl⟩
end Go.Proofs.YtimhbimpaiiceaaDoor.Ax
