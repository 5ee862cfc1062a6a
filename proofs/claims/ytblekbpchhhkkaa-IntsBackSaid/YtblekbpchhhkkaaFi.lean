/- Layer ints, and the reference's numbers, by the logic. -/
import Derived.Test.YtblekbpchhhkkaaUi
set_option linter.unusedVariables false
set_option linter.unusedSimpArgs false
namespace Go.Proofs.Ytblekbpchhhkkaa.Ax
open Go Go.RowKit

def F (a : Int) : Prop := -2147483648 ≤ a ∧ a ≤ 2147483647
instance (a : Int) : Decidable (F a) := by unfold F; infer_instance
def R (a : Int) (b : Bool) : SV := .tup [I a, B b]

def ints_Fits : Ctr := { A := Int, enc := fun n => [I n], dom := fun _ => True, res := fun n _ => B (decide (F n)) }
theorem ints_Fits_ok : CtrSound Try.prog 9 ints_Fits :=
  ctr_of_ax (env_ok tys_ok (eqs := []) trivial (cs := []) trivial) mixed _ Try.func9 (by kernel_rfl) rfl (fun _ _ => Nat.le_of_ble_eq_true rfl) fun (n : Int) id _ => by
    refine ⟨fun h => ?_, fun h => ?_⟩
    · exact ⟨.bool (by rw [decide_eq_decide]; unfold F; have := of_decide_eq_true h; omega), rfl⟩
    · exact ⟨.bff (decide_eq_false (by unfold F; have := of_decide_eq_false h; omega)), rfl⟩
def ref_in : Ctr := { A := Int × Int × Int, enc := fun x => [I x.1, I x.2.1, I x.2.2], dom := fun _ => True, res := fun x _ => B (decide (x.2.1 ≤ x.1 ∧ x.1 ≤ x.2.2)) }
theorem ref_in_ok : CtrSound Try.prog 19 ref_in :=
  ctr_of_ax (env_ok tys_ok (eqs := []) trivial (cs := []) trivial) mixed _ Try.func19 (by kernel_rfl) rfl (fun _ _ => Nat.le_of_ble_eq_true rfl) fun ((n, a, b) : Int × Int × Int) id _ => by
    refine ⟨fun h => ?_, fun h => ?_⟩
    · exact ⟨.bool (by rw [decide_eq_decide]; have := of_decide_eq_true h; omega), rfl⟩
    · exact ⟨.bff (decide_eq_false (by have := of_decide_eq_false h; omega)), rfl⟩
def ref_Fit : Ctr := ints_Fits
theorem ref_Fit_ok : CtrSound Try.prog 10 ref_Fit :=
  ctr_of_ax (env_ok tys_ok (eqs := []) trivial (cs := [(19, ref_in)]) ⟨ref_in_ok, trivial⟩) mixed _ Try.func10 (by kernel_rfl) rfl (fun _ _ => Nat.le_of_ble_eq_true rfl) fun (n : Int) id _ => by
    refine ⟨(_, _, _), ⟨.refl _, .refl _, .refl _, trivial⟩, rfl, trivial, ?_⟩
    exact ⟨.bool rfl, rfl⟩
def toldF (n : Int) : Int × Bool := if F n then (n, true) else (0, false)
def ints_told : Ctr := { A := Int, enc := fun n => [I n], dom := fun _ => True, res := fun n _ => R (toldF n).1 (toldF n).2 }
theorem ints_told_ok : CtrSound Try.prog 20 ints_told :=
  ctr_of_ax (env_ok tys_ok (eqs := []) trivial (cs := [(9, ints_Fits)]) ⟨ints_Fits_ok, trivial⟩) mixed _ Try.func20 (by kernel_rfl) rfl (fun _ _ => Nat.le_of_ble_eq_true rfl) fun (n : Int) id _ => by
    refine ⟨_, ⟨.refl _, trivial⟩, rfl, trivial, fun h => ?_, fun h => ?_⟩
    · have h' : ¬ F n := by simpa using h
      exact ⟨.tup2 (.int (by unfold toldF; rw [if_neg h'])) (.bff (by unfold toldF; rw [if_neg h'])), rfl⟩
    · have h' : F n := by simpa using h
      exact ⟨.tup2 (.int (by unfold toldF; rw [if_pos h'])) (.btt (by unfold toldF; rw [if_pos h'])), rfl⟩

theorem mulb {a b : Int} (ha : F a) (hb : F b) : -4611686018427387904 ≤ a * b ∧ a * b ≤ 4611686018427387904 := by
  obtain ⟨h1, h2⟩ := ha
  obtain ⟨h3, h4⟩ := hb
  have e : (a * b).natAbs = a.natAbs * b.natAbs := Int.natAbs_mul a b
  have : a.natAbs * b.natAbs ≤ 2147483648 * 2147483648 := Nat.mul_le_mul (by omega) (by omega)
  omega
theorem tdivb (a b : Int) : (Int.tdiv a b).natAbs ≤ a.natAbs := by
  rw [Int.natAbs_tdiv]
  exact Nat.div_le_self _ _
theorem tmodb (a b : Int) : (Int.tmod a b).natAbs ≤ a.natAbs := by
  rw [Int.natAbs_tmod]
  exact Nat.mod_le _ _

def addF (a b : Int) : Int × Bool := if F a ∧ F b ∧ F (a + b) then (a + b, true) else (0, false)
def ints_Add : Ctr := { A := Int × Int, enc := fun x => [I x.1, I x.2], dom := fun _ => True, res := fun x _ => R (addF x.1 x.2).1 (addF x.1 x.2).2 }
theorem add_no {a b : Int} (h : ¬ (F a ∧ F b)) : addF a b = (0, false) := by unfold addF; rw [if_neg (fun c => h ⟨c.1, c.2.1⟩)]
theorem add_told {a b : Int} (h : F a ∧ F b) : addF a b = toldF (IntKind.i64.wrap (a + b)) := by
  rw [wrap_eq _ (by have := h.1; have := h.2; unfold F at *; omega) (by have := h.1; have := h.2; unfold F at *; omega)]
  unfold addF toldF
  obtain ⟨h1, h2⟩ := h
  by_cases h3 : F (a + b)
  · rw [if_pos h3, if_pos ⟨h1, h2, h3⟩]
  · rw [if_neg h3, if_neg (fun c => h3 c.2.2)]
theorem ints_Add_ok : CtrSound Try.prog 12 ints_Add :=
  ctr_of_ax (env_ok tys_ok (eqs := []) trivial (cs := [(9, ints_Fits), (20, ints_told)]) ⟨ints_Fits_ok, ints_told_ok, trivial⟩) mixed _ Try.func12 (by kernel_rfl) rfl (fun _ _ => Nat.le_of_ble_eq_true rfl) fun ((a, b) : Int × Int) id _ => by
    refine ⟨_, ⟨.refl _, trivial⟩, rfl, trivial, fun h => ?_, fun h => ?_⟩
    · have h1 : ¬ F a := by simpa using h
      exact ⟨.tup2 (.int (by rw [add_no (fun c => h1 c.1)])) (.bff (by rw [add_no (fun c => h1 c.1)])), rfl⟩
    · have h1 : F a := by simpa using h
      refine ⟨_, ⟨.refl _, trivial⟩, rfl, trivial, fun h => ?_, fun h => ?_⟩
      · have h2 : ¬ F b := by simpa using h
        exact ⟨.tup2 (.int (by rw [add_no (fun c => h2 c.2)])) (.bff (by rw [add_no (fun c => h2 c.2)])), rfl⟩
      · have h2 : F b := by simpa using h
        refine ⟨_, ⟨.refl _, trivial⟩, rfl, trivial, ?_⟩
        exact ⟨.tup2 (.int (by rw [add_told ⟨h1, h2⟩])) (.bool (by rw [add_told ⟨h1, h2⟩])), rfl⟩

def subF (a b : Int) : Int × Bool := if F a ∧ F b ∧ F (a - b) then (a - b, true) else (0, false)
def ints_Sub : Ctr := { A := Int × Int, enc := fun x => [I x.1, I x.2], dom := fun _ => True, res := fun x _ => R (subF x.1 x.2).1 (subF x.1 x.2).2 }
theorem sub_no {a b : Int} (h : ¬ (F a ∧ F b)) : subF a b = (0, false) := by unfold subF; rw [if_neg (fun c => h ⟨c.1, c.2.1⟩)]
theorem sub_told {a b : Int} (h : F a ∧ F b) : subF a b = toldF (IntKind.i64.wrap (a - b)) := by
  rw [wrap_eq _ (by have := h.1; have := h.2; unfold F at *; omega) (by have := h.1; have := h.2; unfold F at *; omega)]
  unfold subF toldF
  obtain ⟨h1, h2⟩ := h
  by_cases h3 : F (a - b)
  · rw [if_pos h3, if_pos ⟨h1, h2, h3⟩]
  · rw [if_neg h3, if_neg (fun c => h3 c.2.2)]
theorem ints_Sub_ok : CtrSound Try.prog 13 ints_Sub :=
  ctr_of_ax (env_ok tys_ok (eqs := []) trivial (cs := [(9, ints_Fits), (20, ints_told)]) ⟨ints_Fits_ok, ints_told_ok, trivial⟩) mixed _ Try.func13 (by kernel_rfl) rfl (fun _ _ => Nat.le_of_ble_eq_true rfl) fun ((a, b) : Int × Int) id _ => by
    refine ⟨_, ⟨.refl _, trivial⟩, rfl, trivial, fun h => ?_, fun h => ?_⟩
    · have h1 : ¬ F a := by simpa using h
      exact ⟨.tup2 (.int (by rw [sub_no (fun c => h1 c.1)])) (.bff (by rw [sub_no (fun c => h1 c.1)])), rfl⟩
    · have h1 : F a := by simpa using h
      refine ⟨_, ⟨.refl _, trivial⟩, rfl, trivial, fun h => ?_, fun h => ?_⟩
      · have h2 : ¬ F b := by simpa using h
        exact ⟨.tup2 (.int (by rw [sub_no (fun c => h2 c.2)])) (.bff (by rw [sub_no (fun c => h2 c.2)])), rfl⟩
      · have h2 : F b := by simpa using h
        refine ⟨_, ⟨.refl _, trivial⟩, rfl, trivial, ?_⟩
        exact ⟨.tup2 (.int (by rw [sub_told ⟨h1, h2⟩])) (.bool (by rw [sub_told ⟨h1, h2⟩])), rfl⟩

def mulF (a b : Int) : Int × Bool := if F a ∧ F b ∧ F (a * b) then (a * b, true) else (0, false)
def ints_Mul : Ctr := { A := Int × Int, enc := fun x => [I x.1, I x.2], dom := fun _ => True, res := fun x _ => R (mulF x.1 x.2).1 (mulF x.1 x.2).2 }
theorem mul_no {a b : Int} (h : ¬ (F a ∧ F b)) : mulF a b = (0, false) := by unfold mulF; rw [if_neg (fun c => h ⟨c.1, c.2.1⟩)]
theorem mul_told {a b : Int} (h : F a ∧ F b) : mulF a b = toldF (IntKind.i64.wrap (a * b)) := by
  rw [wrap_eq _ (by have := mulb h.1 h.2; omega) (by have := mulb h.1 h.2; omega)]
  unfold mulF toldF
  obtain ⟨h1, h2⟩ := h
  by_cases h3 : F (a * b)
  · rw [if_pos h3, if_pos ⟨h1, h2, h3⟩]
  · rw [if_neg h3, if_neg (fun c => h3 c.2.2)]
theorem ints_Mul_ok : CtrSound Try.prog 16 ints_Mul :=
  ctr_of_ax (env_ok tys_ok (eqs := []) trivial (cs := [(9, ints_Fits), (20, ints_told)]) ⟨ints_Fits_ok, ints_told_ok, trivial⟩) mixed _ Try.func16 (by kernel_rfl) rfl (fun _ _ => Nat.le_of_ble_eq_true rfl) fun ((a, b) : Int × Int) id _ => by
    refine ⟨_, ⟨.refl _, trivial⟩, rfl, trivial, fun h => ?_, fun h => ?_⟩
    · have h1 : ¬ F a := by simpa using h
      exact ⟨.tup2 (.int (by rw [mul_no (fun c => h1 c.1)])) (.bff (by rw [mul_no (fun c => h1 c.1)])), rfl⟩
    · have h1 : F a := by simpa using h
      refine ⟨_, ⟨.refl _, trivial⟩, rfl, trivial, fun h => ?_, fun h => ?_⟩
      · have h2 : ¬ F b := by simpa using h
        exact ⟨.tup2 (.int (by rw [mul_no (fun c => h2 c.2)])) (.bff (by rw [mul_no (fun c => h2 c.2)])), rfl⟩
      · have h2 : F b := by simpa using h
        refine ⟨_, ⟨.refl _, trivial⟩, rfl, trivial, ?_⟩
        exact ⟨.tup2 (.int (by rw [mul_told ⟨h1, h2⟩])) (.bool (by rw [mul_told ⟨h1, h2⟩])), rfl⟩

def divF (a b : Int) : Int × Bool := if F a ∧ F b ∧ b ≠ 0 ∧ F (Int.tdiv a b) then (Int.tdiv a b, true) else (0, false)
def ints_Div : Ctr := { A := Int × Int, enc := fun x => [I x.1, I x.2], dom := fun _ => True, res := fun x _ => R (divF x.1 x.2).1 (divF x.1 x.2).2 }
theorem div_no {a b : Int} (h : ¬ (F a ∧ F b ∧ b ≠ 0)) : divF a b = (0, false) := by unfold divF; rw [if_neg (fun c => h ⟨c.1, c.2.1, c.2.2.1⟩)]
theorem div_told {a b : Int} (h : F a ∧ F b ∧ b ≠ 0) : divF a b = toldF (IntKind.i64.wrap (Int.tdiv a b)) := by
  rw [wrap_eq _ (by have := tdivb a b; have := h.1; unfold F at *; omega) (by have := tdivb a b; have := h.1; unfold F at *; omega)]
  unfold divF toldF
  obtain ⟨h1, h2, h0⟩ := h
  by_cases h3 : F (Int.tdiv a b)
  · rw [if_pos h3, if_pos ⟨h1, h2, h0, h3⟩]
  · rw [if_neg h3, if_neg (fun c => h3 c.2.2.2)]
theorem ints_Div_ok : CtrSound Try.prog 14 ints_Div :=
  ctr_of_ax (env_ok tys_ok (eqs := []) trivial (cs := [(9, ints_Fits), (20, ints_told)]) ⟨ints_Fits_ok, ints_told_ok, trivial⟩) mixed _ Try.func14 (by kernel_rfl) rfl (fun _ _ => Nat.le_of_ble_eq_true rfl) fun ((a, b) : Int × Int) id _ => by
    refine ⟨_, ⟨.refl _, trivial⟩, rfl, trivial, fun h => ?_, fun h => ?_⟩
    · have h1 : ¬ F a := by simpa using h
      exact ⟨.tup2 (.int (by rw [div_no (fun c => h1 c.1)])) (.bff (by rw [div_no (fun c => h1 c.1)])), rfl⟩
    · have h1 : F a := by simpa using h
      refine ⟨_, ⟨.refl _, trivial⟩, rfl, trivial, fun h => ?_, fun h => ?_⟩
      · have h2 : ¬ F b := by simpa using h
        exact ⟨.tup2 (.int (by rw [div_no (fun c => h2 c.2.1)])) (.bff (by rw [div_no (fun c => h2 c.2.1)])), rfl⟩
      · have h2 : F b := by simpa using h
        refine ⟨fun h => ?_, fun h => ?_⟩
        · have h0 : b = 0 := by simpa using h
          exact ⟨.tup2 (.int (by rw [div_no (fun c => c.2.2 h0)])) (.bff (by rw [div_no (fun c => c.2.2 h0)])), rfl⟩
        · have h0 : b ≠ 0 := by simpa using h
          refine ⟨h0, ?_⟩
          refine ⟨_, ⟨.refl _, trivial⟩, rfl, trivial, ?_⟩
          exact ⟨.tup2 (.int (by rw [div_told ⟨h1, h2, h0⟩])) (.bool (by rw [div_told ⟨h1, h2, h0⟩])), rfl⟩

def remF (a b : Int) : Int × Bool := if F a ∧ F b ∧ b ≠ 0 ∧ F (Int.tmod a b) then (Int.tmod a b, true) else (0, false)
def ints_Rem : Ctr := { A := Int × Int, enc := fun x => [I x.1, I x.2], dom := fun _ => True, res := fun x _ => R (remF x.1 x.2).1 (remF x.1 x.2).2 }
theorem rem_no {a b : Int} (h : ¬ (F a ∧ F b ∧ b ≠ 0)) : remF a b = (0, false) := by unfold remF; rw [if_neg (fun c => h ⟨c.1, c.2.1, c.2.2.1⟩)]
theorem rem_told {a b : Int} (h : F a ∧ F b ∧ b ≠ 0) : remF a b = toldF (Int.tmod a b) := by
  unfold remF toldF
  obtain ⟨h1, h2, h0⟩ := h
  by_cases h3 : F (Int.tmod a b)
  · rw [if_pos h3, if_pos ⟨h1, h2, h0, h3⟩]
  · rw [if_neg h3, if_neg (fun c => h3 c.2.2.2)]
theorem ints_Rem_ok : CtrSound Try.prog 15 ints_Rem :=
  ctr_of_ax (env_ok tys_ok (eqs := []) trivial (cs := [(9, ints_Fits), (20, ints_told)]) ⟨ints_Fits_ok, ints_told_ok, trivial⟩) mixed _ Try.func15 (by kernel_rfl) rfl (fun _ _ => Nat.le_of_ble_eq_true rfl) fun ((a, b) : Int × Int) id _ => by
    refine ⟨_, ⟨.refl _, trivial⟩, rfl, trivial, fun h => ?_, fun h => ?_⟩
    · have h1 : ¬ F a := by simpa using h
      exact ⟨.tup2 (.int (by rw [rem_no (fun c => h1 c.1)])) (.bff (by rw [rem_no (fun c => h1 c.1)])), rfl⟩
    · have h1 : F a := by simpa using h
      refine ⟨_, ⟨.refl _, trivial⟩, rfl, trivial, fun h => ?_, fun h => ?_⟩
      · have h2 : ¬ F b := by simpa using h
        exact ⟨.tup2 (.int (by rw [rem_no (fun c => h2 c.2.1)])) (.bff (by rw [rem_no (fun c => h2 c.2.1)])), rfl⟩
      · have h2 : F b := by simpa using h
        refine ⟨fun h => ?_, fun h => ?_⟩
        · have h0 : b = 0 := by simpa using h
          exact ⟨.tup2 (.int (by rw [rem_no (fun c => c.2.2 h0)])) (.bff (by rw [rem_no (fun c => c.2.2 h0)])), rfl⟩
        · have h0 : b ≠ 0 := by simpa using h
          refine ⟨h0, ?_⟩
          refine ⟨_, ⟨.refl _, trivial⟩, rfl, trivial, ?_⟩
          exact ⟨.tup2 (.int (by rw [rem_told ⟨h1, h2, h0⟩])) (.bool (by rw [rem_told ⟨h1, h2, h0⟩])), rfl⟩

def ints_Neg : Ctr := { A := Int, enc := fun n => [I n], dom := fun _ => True, res := fun n _ => R (subF 0 n).1 (subF 0 n).2 }
theorem ints_Neg_ok : CtrSound Try.prog 17 ints_Neg :=
  ctr_of_ax (env_ok tys_ok (eqs := []) trivial (cs := [(13, ints_Sub)]) ⟨ints_Sub_ok, trivial⟩) mixed _ Try.func17 (by kernel_rfl) rfl (fun _ _ => Nat.le_of_ble_eq_true rfl) fun (n : Int) id _ => by
    refine ⟨(_, _), ⟨.refl _, .refl _, trivial⟩, rfl, trivial, ?_⟩
    exact ⟨.tup2 (.int rfl) (.bool rfl), rfl⟩
end Go.Proofs.Ytblekbpchhhkkaa.Ax
