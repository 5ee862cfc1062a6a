/- At the greatest number one more, at the least one less, do not fit; doubled neither does. Condition: none beside the given statement's own (any whole numbers of 64 bits). -/
import Derived.Test.YtblekbpchhhkkaaPIntsEdgesx1
set_option linter.unusedSimpArgs false
namespace Go.Proofs.Ytblekbpchhhkkaa.Pure
open Go.RowKit Go.Proofs.Ytblekbpchhhkkaa.PIntsEdges Go.Proofs.YtblekbpchhhkkaaW.PrintWords Go.Proofs.YtblekbpchhhkkaaW.PrintLast

def F (a : Int) : Prop := -2147483648 ≤ a ∧ a ≤ 2147483647
instance (a : Int) : Decidable (F a) := by unfold F; infer_instance
theorem fits (a : Int) : ints_Fits.f a = some (decide (F a)) := by
  unfold ints_Fits.f
  by_cases h : a ≥ -2147483648
  · rw [if_pos h]; congr 1; rw [decide_eq_decide]; unfold F; omega
  · rw [if_neg h]; congr 1; symm; rw [decide_eq_false_iff_not]; unfold F; omega
theorem told (a : Int) : ints_told.f a = some (if F a then (a, true) else (0, false)) := by
  unfold ints_told.f
  rw [fits]
  simp only [Option.bind_some]
  by_cases h : F a
  · simp only [h, decide_true, if_true]
  · simp only [h, decide_false, if_false, Bool.false_eq_true]

theorem mulb {a b : Int} (ha : F a) (hb : F b) : -4611686018427387904 ≤ a * b ∧ a * b ≤ 4611686018427387904 := by
  obtain ⟨h1, h2⟩ := ha
  obtain ⟨h3, h4⟩ := hb
  have e : (a * b).natAbs = a.natAbs * b.natAbs := Int.natAbs_mul a b
  have : a.natAbs * b.natAbs ≤ 2147483648 * 2147483648 := Nat.mul_le_mul (by omega) (by omega)
  omega
theorem mulw {a b : Int} (ha : F a) (hb : F b) : wrap64 (a * b) = a * b := by
  have := mulb ha hb
  unfold wrap64
  omega

theorem add_eq (a b : Int) : ints_Add.f a b = some (if F a ∧ F b ∧ F (a + b) then (a + b, true) else (0, false)) := by
  unfold ints_Add.f
  rw [fits, fits]
  simp only [Option.bind_some]
  by_cases ha : F a
  · by_cases hb : F b
    · simp only [ha, hb, decide_true, if_true, true_and]
      rw [told]
      simp only [Option.bind_some, Option.some.injEq]
      rw [show wrap64 (a + b) = a + b from by unfold wrap64; unfold F at ha hb; omega]
    · simp only [ha, hb, decide_true, decide_false, if_true, if_false, Bool.false_eq_true, false_and, and_false]
  · simp only [ha, decide_false, if_false, Bool.false_eq_true, false_and]

theorem sub_eq (a b : Int) : ints_Sub.f a b = some (if F a ∧ F b ∧ F (a - b) then (a - b, true) else (0, false)) := by
  unfold ints_Sub.f
  rw [fits, fits]
  simp only [Option.bind_some]
  by_cases ha : F a
  · by_cases hb : F b
    · simp only [ha, hb, decide_true, if_true, true_and]
      rw [told]
      simp only [Option.bind_some, Option.some.injEq]
      rw [show wrap64 (a - b) = a - b from by unfold wrap64; unfold F at ha hb; omega]
    · simp only [ha, hb, decide_true, decide_false, if_true, if_false, Bool.false_eq_true, false_and, and_false]
  · simp only [ha, decide_false, if_false, Bool.false_eq_true, false_and]

theorem mul_eq (a b : Int) : ints_Mul.f a b = some (if F a ∧ F b ∧ F (a * b) then (a * b, true) else (0, false)) := by
  unfold ints_Mul.f
  rw [fits, fits]
  simp only [Option.bind_some]
  by_cases ha : F a
  · by_cases hb : F b
    · simp only [ha, hb, decide_true, if_true, true_and]
      rw [told]
      simp only [Option.bind_some, Option.some.injEq]
      rw [mulw ha hb]
    · simp only [ha, hb, decide_true, decide_false, if_true, if_false, Bool.false_eq_true, false_and, and_false]
  · simp only [ha, decide_false, if_false, Bool.false_eq_true, false_and]

theorem wakes : delverlaw08_wakes.f = some true := by kernel_rfl

theorem IntsEdges : delverlaw08_IntsEdges.Pure := by
  intro a _
  unfold delverlaw08_IntsEdges.f
  obtain ⟨n, hn, h0, h1⟩ : ∃ n : Int, wrap64 (Int.tmod (IntKind.u64.wrap a) 1000) = n ∧ 0 ≤ n ∧ n < 1000 := by
    refine ⟨_, rfl, ?_⟩
    have hp : 0 ≤ IntKind.u64.wrap a := by
      simp only [IntKind.wrap, IntKind.bits, IntKind.signed]
      have := Int.emod_nonneg a (show (18446744073709551616 : Int) ≠ 0 by decide)
      simpa using this
    have e : Int.tmod (IntKind.u64.wrap a) 1000 = (IntKind.u64.wrap a) % 1000 := Int.tmod_eq_emod_of_nonneg hp
    rw [e]
    unfold wrap64
    omega
  rw [hn]
  rw [show wrap64 (2147483647 - n) = 2147483647 - n from by unfold wrap64; omega,
    show wrap64 (n + 1) = n + 1 from by unfold wrap64; omega,
    show wrap64 (-2147483648 + n) = -2147483648 + n from by unfold wrap64; omega,
    show wrap64 (1073741824 + n) = 1073741824 + n from by unfold wrap64; omega,
    show wrap64 (1073741823 - n) = 1073741823 - n from by unfold wrap64; omega,
    show wrap64 (2147483648 + n) = 2147483648 + n from by unfold wrap64; omega]
  simp only [add_eq, sub_eq, mul_eq, wakes, Option.bind_some]
  rw [if_pos (show F (2147483647 - n) ∧ F n ∧ F (2147483647 - n + n) from by unfold F; omega),
    if_neg (show ¬ (F (2147483647 - n) ∧ F (n + 1) ∧ F (2147483647 - n + (n + 1))) from by unfold F; omega),
    if_pos (show F (-2147483648 + n) ∧ F n ∧ F (-2147483648 + n - n) from by unfold F; omega),
    if_neg (show ¬ (F (-2147483648 + n) ∧ F (n + 1) ∧ F (-2147483648 + n - (n + 1))) from by unfold F; omega),
    if_neg (show ¬ (F (1073741824 + n) ∧ F 2 ∧ F ((1073741824 + n) * 2)) from by unfold F; omega),
    if_pos (show F (1073741823 - n) ∧ F 2 ∧ F ((1073741823 - n) * 2) from by unfold F; omega),
    if_neg (show ¬ (F (2147483648 + n) ∧ F 0 ∧ F (2147483648 + n + 0)) from by unfold F; omega)]
  simp only [if_true, Bool.false_eq_true, if_false]

end Go.Proofs.Ytblekbpchhhkkaa.Pure
