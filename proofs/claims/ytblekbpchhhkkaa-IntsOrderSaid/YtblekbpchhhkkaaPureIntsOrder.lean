/- More added is more, less taken away is more, and divided by a number above nought the order stays. Condition: none beside the given statement's own (any whole numbers of 64 bits). -/
import Derived.Test.YtblekbpchhhkkaaPIntsOrderx1
set_option linter.unusedSimpArgs false
namespace Go.Proofs.Ytblekbpchhhkkaa.Pure
open Go.RowKit Go.Proofs.Ytblekbpchhhkkaa.PIntsOrder Go.Proofs.YtblekbpchhhkkaaW.PrintWords Go.Proofs.YtblekbpchhhkkaaW.PrintLast

def F (a : Int) : Prop := -2147483648 ≤ a ∧ a ≤ 2147483647
instance (a : Int) : Decidable (F a) := by unfold F; infer_instance
theorem fits (a : Int) : ints_Fits.f a = some (decide (F a)) := by
  unfold ints_Fits.f
  by_cases h : a ≥ -2147483648
  · rw [if_pos h]; congr 1; rw [decide_eq_decide]; unfold F; omega
  · rw [if_neg h]; congr 1; symm; rw [decide_eq_false_iff_not]; unfold F; omega
theorem told (a : Int) : ints_told.f a = some (if F a then (a, true) else (0, false)) := by
  unfold ints_told.f
  rw [fits]
  simp only [Option.bind_some]
  by_cases h : F a
  · simp only [h, decide_true, if_true]
  · simp only [h, decide_false, if_false, Bool.false_eq_true]

theorem tdivb (a b : Int) : (Int.tdiv a b).natAbs ≤ a.natAbs := by
  rw [Int.natAbs_tdiv]
  exact Nat.div_le_self _ _
theorem divw {a b : Int} (ha : F a) (_hb : F b) : wrap64 (Int.tdiv a b) = Int.tdiv a b := by
  have := tdivb a b
  obtain ⟨h1, h2⟩ := ha
  unfold wrap64
  omega

theorem add_eq (a b : Int) : ints_Add.f a b = some (if F a ∧ F b ∧ F (a + b) then (a + b, true) else (0, false)) := by
  unfold ints_Add.f
  rw [fits, fits]
  simp only [Option.bind_some]
  by_cases ha : F a
  · by_cases hb : F b
    · simp only [ha, hb, decide_true, if_true, true_and]
      rw [told]
      simp only [Option.bind_some, Option.some.injEq]
      rw [show wrap64 (a + b) = a + b from by unfold wrap64; unfold F at ha hb; omega]
    · simp only [ha, hb, decide_true, decide_false, if_true, if_false, Bool.false_eq_true, false_and, and_false]
  · simp only [ha, decide_false, if_false, Bool.false_eq_true, false_and]

theorem sub_eq (a b : Int) : ints_Sub.f a b = some (if F a ∧ F b ∧ F (a - b) then (a - b, true) else (0, false)) := by
  unfold ints_Sub.f
  rw [fits, fits]
  simp only [Option.bind_some]
  by_cases ha : F a
  · by_cases hb : F b
    · simp only [ha, hb, decide_true, if_true, true_and]
      rw [told]
      simp only [Option.bind_some, Option.some.injEq]
      rw [show wrap64 (a - b) = a - b from by unfold wrap64; unfold F at ha hb; omega]
    · simp only [ha, hb, decide_true, decide_false, if_true, if_false, Bool.false_eq_true, false_and, and_false]
  · simp only [ha, decide_false, if_false, Bool.false_eq_true, false_and]

theorem div_eq (a b : Int) : ints_Div.f a b = some (if F a ∧ F b ∧ b ≠ 0 ∧ F (Int.tdiv a b) then (Int.tdiv a b, true) else (0, false)) := by
  unfold ints_Div.f
  rw [fits, fits]
  simp only [Option.bind_some]
  by_cases ha : F a
  · by_cases hb : F b
    · simp only [ha, hb, decide_true, if_true, true_and]
      by_cases h0 : b = 0
      · rw [if_pos h0, if_neg (by intro h; exact h.1 h0)]
      · rw [if_neg h0, told]
        simp only [Option.bind_some, Option.some.injEq]
        rw [divw ha hb]
        by_cases h : F (Int.tdiv a b)
        · rw [if_pos h, if_pos ⟨h0, h⟩]
        · rw [if_neg h, if_neg (fun k => h k.2)]
    · simp only [ha, hb, decide_true, decide_false, if_true, if_false, Bool.false_eq_true, false_and, and_false]
  · simp only [ha, decide_false, if_false, Bool.false_eq_true, false_and]

theorem wakes : delverlaw08_wakes.f = some true := by kernel_rfl

theorem tdiv_le {a b c : Int} (h : a ≤ b) (hc : 0 < c) : Int.tdiv a c ≤ Int.tdiv b c := Int.tdiv_le_tdiv hc h
theorem j2 (k : Nat) (a b c : Int) (h : a ≤ b) : delverlaw08_IntsOrder.j2 (k + 1) a b c false = some true := by
  simp only [delverlaw08_IntsOrder.j2, Bool.false_eq_true, if_false, wakes, div_eq, Option.bind_some]
  by_cases hc : c ≤ 0
  · rw [if_pos hc]
  · rw [if_neg hc]
    by_cases h1 : F a ∧ F c ∧ c ≠ 0 ∧ F (Int.tdiv a c)
    · rw [if_pos h1]
      simp only [if_true]
      by_cases h2 : F b ∧ F c ∧ c ≠ 0 ∧ F (Int.tdiv b c)
      · rw [if_pos h2]
        simp only [if_true]
        rw [if_pos (tdiv_le h (by omega))]
      · rw [if_neg h2]
        simp only [Bool.false_eq_true, if_false]
    · rw [if_neg h1]
      simp only [Bool.false_eq_true, if_false]
theorem j1 (k : Nat) (a b c : Int) (h : a ≤ b) : delverlaw08_IntsOrder.j1 (k + 2) a b c false = some true := by
  simp only [delverlaw08_IntsOrder.j1, Bool.false_eq_true, if_false, sub_eq, Option.bind_some]
  by_cases h1 : F c ∧ F a ∧ F (c - a)
  · rw [if_pos h1]
    simp only [if_true]
    by_cases h2 : F c ∧ F b ∧ F (c - b)
    · rw [if_pos h2]
      simp only [if_true]
      rw [show decide (c - a < c - b) = false from by simp only [decide_eq_false_iff_not]; omega]
      exact j2 k a b c h
    · rw [if_neg h2]
      simp only [Bool.false_eq_true, if_false]
      exact j2 k a b c h
  · rw [if_neg h1]
    simp only [Bool.false_eq_true, if_false]
    exact j2 k a b c h
theorem j0 (k : Nat) (a b c : Int) (h : a ≤ b) : delverlaw08_IntsOrder.j0 (k + 3) a b c = some true := by
  simp only [delverlaw08_IntsOrder.j0, add_eq, Option.bind_some]
  by_cases h1 : F a ∧ F c ∧ F (a + c)
  · rw [if_pos h1]
    simp only [if_true]
    by_cases h2 : F b ∧ F c ∧ F (b + c)
    · rw [if_pos h2]
      simp only [if_true]
      rw [show decide (a + c > b + c) = false from by simp only [decide_eq_false_iff_not]; omega]
      exact j1 k a b c h
    · rw [if_neg h2]
      simp only [Bool.false_eq_true, if_false]
      exact j1 k a b c h
  · rw [if_neg h1]
    simp only [Bool.false_eq_true, if_false]
    exact j1 k a b c h
theorem IntsOrder : delverlaw08_IntsOrder.Pure := by
  intro a b c _ _ _
  refine ⟨3, ?_⟩
  unfold delverlaw08_IntsOrder.f
  by_cases h : a > b
  · rw [if_pos h]; exact j0 0 b a c (by omega)
  · rw [if_neg h]; exact j0 0 a b c (by omega)

end Go.Proofs.Ytblekbpchhhkkaa.Pure
