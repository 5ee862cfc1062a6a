/- Where all fit, a product is spread over a sum, a product with nought is nought, with one itself, a quotient by one itself. Condition: none beside the given statement's own (any whole numbers of 64 bits). -/
import Derived.Test.YtblekbpchhhkkaaPIntsRingx2
set_option linter.unusedSimpArgs false
namespace Go.Proofs.Ytblekbpchhhkkaa.Pure
open Go.RowKit Go.Proofs.Ytblekbpchhhkkaa.PIntsRing Go.Proofs.YtblekbpchhhkkaaW.PrintWords Go.Proofs.YtblekbpchhhkkaaW.PrintLast

def F (a : Int) : Prop := -2147483648 ≤ a ∧ a ≤ 2147483647
instance (a : Int) : Decidable (F a) := by unfold F; infer_instance
theorem fits (a : Int) : ints_Fits.f a = some (decide (F a)) := by
  unfold ints_Fits.f
  by_cases h : a ≥ -2147483648
  · rw [if_pos h]; congr 1; rw [decide_eq_decide]; unfold F; omega
  · rw [if_neg h]; congr 1; symm; rw [decide_eq_false_iff_not]; unfold F; omega
theorem told (a : Int) : ints_told.f a = some (if F a then (a, true) else (0, false)) := by
  unfold ints_told.f
  rw [fits]
  simp only [Option.bind_some]
  by_cases h : F a
  · simp only [h, decide_true, if_true]
  · simp only [h, decide_false, if_false, Bool.false_eq_true]

theorem mulb {a b : Int} (ha : F a) (hb : F b) : -4611686018427387904 ≤ a * b ∧ a * b ≤ 4611686018427387904 := by
  obtain ⟨h1, h2⟩ := ha
  obtain ⟨h3, h4⟩ := hb
  have e : (a * b).natAbs = a.natAbs * b.natAbs := Int.natAbs_mul a b
  have : a.natAbs * b.natAbs ≤ 2147483648 * 2147483648 := Nat.mul_le_mul (by omega) (by omega)
  omega
theorem mulw {a b : Int} (ha : F a) (hb : F b) : wrap64 (a * b) = a * b := by
  have := mulb ha hb
  unfold wrap64
  omega

theorem tdivb (a b : Int) : (Int.tdiv a b).natAbs ≤ a.natAbs := by
  rw [Int.natAbs_tdiv]
  exact Nat.div_le_self _ _
theorem divw {a b : Int} (ha : F a) (_hb : F b) : wrap64 (Int.tdiv a b) = Int.tdiv a b := by
  have := tdivb a b
  obtain ⟨h1, h2⟩ := ha
  unfold wrap64
  omega

theorem add_eq (a b : Int) : ints_Add.f a b = some (if F a ∧ F b ∧ F (a + b) then (a + b, true) else (0, false)) := by
  unfold ints_Add.f
  rw [fits, fits]
  simp only [Option.bind_some]
  by_cases ha : F a
  · by_cases hb : F b
    · simp only [ha, hb, decide_true, if_true, true_and]
      rw [told]
      simp only [Option.bind_some, Option.some.injEq]
      rw [show wrap64 (a + b) = a + b from by unfold wrap64; unfold F at ha hb; omega]
    · simp only [ha, hb, decide_true, decide_false, if_true, if_false, Bool.false_eq_true, false_and, and_false]
  · simp only [ha, decide_false, if_false, Bool.false_eq_true, false_and]

theorem mul_eq (a b : Int) : ints_Mul.f a b = some (if F a ∧ F b ∧ F (a * b) then (a * b, true) else (0, false)) := by
  unfold ints_Mul.f
  rw [fits, fits]
  simp only [Option.bind_some]
  by_cases ha : F a
  · by_cases hb : F b
    · simp only [ha, hb, decide_true, if_true, true_and]
      rw [told]
      simp only [Option.bind_some, Option.some.injEq]
      rw [mulw ha hb]
    · simp only [ha, hb, decide_true, decide_false, if_true, if_false, Bool.false_eq_true, false_and, and_false]
  · simp only [ha, decide_false, if_false, Bool.false_eq_true, false_and]

theorem div_eq (a b : Int) : ints_Div.f a b = some (if F a ∧ F b ∧ b ≠ 0 ∧ F (Int.tdiv a b) then (Int.tdiv a b, true) else (0, false)) := by
  unfold ints_Div.f
  rw [fits, fits]
  simp only [Option.bind_some]
  by_cases ha : F a
  · by_cases hb : F b
    · simp only [ha, hb, decide_true, if_true, true_and]
      by_cases h0 : b = 0
      · rw [if_pos h0, if_neg (by intro h; exact h.1 h0)]
      · rw [if_neg h0, told]
        simp only [Option.bind_some, Option.some.injEq]
        rw [divw ha hb]
        by_cases h : F (Int.tdiv a b)
        · rw [if_pos h, if_pos ⟨h0, h⟩]
        · rw [if_neg h, if_neg (fun k => h k.2)]
    · simp only [ha, hb, decide_true, decide_false, if_true, if_false, Bool.false_eq_true, false_and, and_false]
  · simp only [ha, decide_false, if_false, Bool.false_eq_true, false_and]

theorem rem_eq (a b : Int) : ints_Rem.f a b = some (if F a ∧ F b ∧ b ≠ 0 ∧ F (Int.tmod a b) then (Int.tmod a b, true) else (0, false)) := by
  unfold ints_Rem.f
  rw [fits, fits]
  simp only [Option.bind_some]
  by_cases ha : F a
  · by_cases hb : F b
    · simp only [ha, hb, decide_true, if_true, true_and]
      by_cases h0 : b = 0
      · rw [if_pos h0, if_neg (by intro h; exact h.1 h0)]
      · rw [if_neg h0, told]
        simp only [Option.bind_some, Option.some.injEq]
        skip
        by_cases h : F (Int.tmod a b)
        · rw [if_pos h, if_pos ⟨h0, h⟩]
        · rw [if_neg h, if_neg (fun k => h k.2)]
    · simp only [ha, hb, decide_true, decide_false, if_true, if_false, Bool.false_eq_true, false_and, and_false]
  · simp only [ha, decide_false, if_false, Bool.false_eq_true, false_and]

theorem wakes : delverlaw08_wakes.f = some true := by kernel_rfl

theorem j1 (k : Nat) (a : Int) (b : Bool) (hb : b = decide (¬ F a)) : delverlaw08_IntsRing.j1 (k + 1) a b = some true := by
  simp only [delverlaw08_IntsRing.j1, fits, wakes, Option.bind_some]
  by_cases h : F a
  · have hb' : b = false := by rw [hb]; simpa using h
    have f0 : F 0 := by unfold F; omega
    have f1 : F 1 := by unfold F; omega
    simp only [hb', Bool.false_eq_true, if_false]
    have e0 : a * 0 = 0 := Int.mul_zero a
    have e1 : a * 1 = a := Int.mul_one a
    have e2 : Int.tdiv a 1 = a := Int.tdiv_one a
    have e3 : Int.tmod a 1 = 0 := Int.tmod_one a
    have n1 : (1 : Int) ≠ 0 := by decide
    simp only [mul_eq, div_eq, rem_eq, e0, e1, e2, e3, h, f0, f1, n1, Option.bind_some, if_true, and_self, ne_eq, not_false_eq_true]
  · have hb' : b = true := by rw [hb]; simpa using h
    simp only [hb', if_true, h, decide_false, Bool.false_eq_true, if_false]
theorem j0 (k : Nat) (a : Int) : delverlaw08_IntsRing.j0 (k + 2) a false = some true := by
  simp only [delverlaw08_IntsRing.j0, Bool.false_eq_true, if_false, fits, Option.bind_some]
  by_cases h : F a
  · rw [if_pos (by simpa using h), if_neg (by unfold F at h; omega)]
    exact j1 k a _ (by unfold F at h ⊢; simp only [decide_eq_decide]; omega)
  · rw [if_neg (by simpa using h)]
    exact j1 k a _ (by simpa using h)
theorem IntsRing : delverlaw08_IntsRing.Pure := by
  intro a b c _ _ _
  refine ⟨2, ?_⟩
  unfold delverlaw08_IntsRing.f
  simp only [add_eq, mul_eq, Option.bind_some]
  by_cases h1 : F b ∧ F c ∧ F (b + c)
  · rw [if_pos h1]
    simp only [if_true]
    by_cases h2 : F a ∧ F (b + c) ∧ F (a * (b + c))
    · rw [if_pos h2]
      simp only [if_true]
      by_cases h3 : F a ∧ F b ∧ F (a * b)
      · rw [if_pos h3]
        simp only [if_true]
        by_cases h4 : F a ∧ F c ∧ F (a * c)
        · rw [if_pos h4]
          simp only [if_true]
          rw [if_pos (show F (a * b) ∧ F (a * c) ∧ F (a * b + a * c) from ⟨h3.2.2, h4.2.2, by rw [← Int.mul_add]; exact h2.2.2⟩)]
          simp only [if_true]
          rw [show (a * (b + c) != a * b + a * c) = false from by rw [Int.mul_add]; simp]
          exact j0 0 a
        · rw [if_neg h4]
          simp only [Bool.false_eq_true, if_false]
          exact j0 0 a
      · rw [if_neg h3]
        simp only [Bool.false_eq_true, if_false]
        exact j0 0 a
    · rw [if_neg h2]
      simp only [Bool.false_eq_true, if_false]
      exact j0 0 a
  · rw [if_neg h1]
    simp only [Bool.false_eq_true, if_false]
    exact j0 0 a

end Go.Proofs.Ytblekbpchhhkkaa.Pure
