/- What any two numbers are added, subtracted, multiplied, divided, what remains, the other way about, or that it does not fit, are the page's. Condition: none beside the given statement's own (any whole numbers of 64 bits). -/
import Derived.Test.YtblekbpchhhkkaaPIntsExactx3
set_option linter.unusedSimpArgs false
namespace Go.Proofs.Ytblekbpchhhkkaa.Pure
open Go.RowKit Go.Proofs.Ytblekbpchhhkkaa.PIntsExact Go.Proofs.YtblekbpchhhkkaaW.PrintWords Go.Proofs.YtblekbpchhhkkaaW.PrintLast

def F (a : Int) : Prop := -2147483648 ≤ a ∧ a ≤ 2147483647
instance (a : Int) : Decidable (F a) := by unfold F; infer_instance
theorem fits (a : Int) : ints_Fits.f a = some (decide (F a)) := by
  unfold ints_Fits.f
  by_cases h : a ≥ -2147483648
  · rw [if_pos h]; congr 1; rw [decide_eq_decide]; unfold F; omega
  · rw [if_neg h]; congr 1; symm; rw [decide_eq_false_iff_not]; unfold F; omega
theorem told (a : Int) : ints_told.f a = some (if F a then (a, true) else (0, false)) := by
  unfold ints_told.f
  rw [fits]
  simp only [Option.bind_some]
  by_cases h : F a
  · simp only [h, decide_true, if_true]
  · simp only [h, decide_false, if_false, Bool.false_eq_true]

theorem mulb {a b : Int} (ha : F a) (hb : F b) : -4611686018427387904 ≤ a * b ∧ a * b ≤ 4611686018427387904 := by
  obtain ⟨h1, h2⟩ := ha
  obtain ⟨h3, h4⟩ := hb
  have e : (a * b).natAbs = a.natAbs * b.natAbs := Int.natAbs_mul a b
  have : a.natAbs * b.natAbs ≤ 2147483648 * 2147483648 := Nat.mul_le_mul (by omega) (by omega)
  omega
theorem mulw {a b : Int} (ha : F a) (hb : F b) : wrap64 (a * b) = a * b := by
  have := mulb ha hb
  unfold wrap64
  omega

theorem tdivb (a b : Int) : (Int.tdiv a b).natAbs ≤ a.natAbs := by
  rw [Int.natAbs_tdiv]
  exact Nat.div_le_self _ _
theorem divw {a b : Int} (ha : F a) (_hb : F b) : wrap64 (Int.tdiv a b) = Int.tdiv a b := by
  have := tdivb a b
  obtain ⟨h1, h2⟩ := ha
  unfold wrap64
  omega

theorem add_eq (a b : Int) : ints_Add.f a b = some (if F a ∧ F b ∧ F (a + b) then (a + b, true) else (0, false)) := by
  unfold ints_Add.f
  rw [fits, fits]
  simp only [Option.bind_some]
  by_cases ha : F a
  · by_cases hb : F b
    · simp only [ha, hb, decide_true, if_true, true_and]
      rw [told]
      simp only [Option.bind_some, Option.some.injEq]
      rw [show wrap64 (a + b) = a + b from by unfold wrap64; unfold F at ha hb; omega]
    · simp only [ha, hb, decide_true, decide_false, if_true, if_false, Bool.false_eq_true, false_and, and_false]
  · simp only [ha, decide_false, if_false, Bool.false_eq_true, false_and]

theorem sub_eq (a b : Int) : ints_Sub.f a b = some (if F a ∧ F b ∧ F (a - b) then (a - b, true) else (0, false)) := by
  unfold ints_Sub.f
  rw [fits, fits]
  simp only [Option.bind_some]
  by_cases ha : F a
  · by_cases hb : F b
    · simp only [ha, hb, decide_true, if_true, true_and]
      rw [told]
      simp only [Option.bind_some, Option.some.injEq]
      rw [show wrap64 (a - b) = a - b from by unfold wrap64; unfold F at ha hb; omega]
    · simp only [ha, hb, decide_true, decide_false, if_true, if_false, Bool.false_eq_true, false_and, and_false]
  · simp only [ha, decide_false, if_false, Bool.false_eq_true, false_and]

theorem mul_eq (a b : Int) : ints_Mul.f a b = some (if F a ∧ F b ∧ F (a * b) then (a * b, true) else (0, false)) := by
  unfold ints_Mul.f
  rw [fits, fits]
  simp only [Option.bind_some]
  by_cases ha : F a
  · by_cases hb : F b
    · simp only [ha, hb, decide_true, if_true, true_and]
      rw [told]
      simp only [Option.bind_some, Option.some.injEq]
      rw [mulw ha hb]
    · simp only [ha, hb, decide_true, decide_false, if_true, if_false, Bool.false_eq_true, false_and, and_false]
  · simp only [ha, decide_false, if_false, Bool.false_eq_true, false_and]

theorem div_eq (a b : Int) : ints_Div.f a b = some (if F a ∧ F b ∧ b ≠ 0 ∧ F (Int.tdiv a b) then (Int.tdiv a b, true) else (0, false)) := by
  unfold ints_Div.f
  rw [fits, fits]
  simp only [Option.bind_some]
  by_cases ha : F a
  · by_cases hb : F b
    · simp only [ha, hb, decide_true, if_true, true_and]
      by_cases h0 : b = 0
      · rw [if_pos h0, if_neg (by intro h; exact h.1 h0)]
      · rw [if_neg h0, told]
        simp only [Option.bind_some, Option.some.injEq]
        rw [divw ha hb]
        by_cases h : F (Int.tdiv a b)
        · rw [if_pos h, if_pos ⟨h0, h⟩]
        · rw [if_neg h, if_neg (fun k => h k.2)]
    · simp only [ha, hb, decide_true, decide_false, if_true, if_false, Bool.false_eq_true, false_and, and_false]
  · simp only [ha, decide_false, if_false, Bool.false_eq_true, false_and]

theorem rem_eq (a b : Int) : ints_Rem.f a b = some (if F a ∧ F b ∧ b ≠ 0 ∧ F (Int.tmod a b) then (Int.tmod a b, true) else (0, false)) := by
  unfold ints_Rem.f
  rw [fits, fits]
  simp only [Option.bind_some]
  by_cases ha : F a
  · by_cases hb : F b
    · simp only [ha, hb, decide_true, if_true, true_and]
      by_cases h0 : b = 0
      · rw [if_pos h0, if_neg (by intro h; exact h.1 h0)]
      · rw [if_neg h0, told]
        simp only [Option.bind_some, Option.some.injEq]
        skip
        by_cases h : F (Int.tmod a b)
        · rw [if_pos h, if_pos ⟨h0, h⟩]
        · rw [if_neg h, if_neg (fun k => h k.2)]
    · simp only [ha, hb, decide_true, decide_false, if_true, if_false, Bool.false_eq_true, false_and, and_false]
  · simp only [ha, decide_false, if_false, Bool.false_eq_true, false_and]

theorem infit (a : Int) : delverref04_Fit.f a = some (decide (F a)) := by
  unfold delverref04_Fit.f delverref04_in.f
  by_cases h : a ≥ -2147483648
  · rw [if_pos h]; simp only [Option.bind_some]; congr 1; rw [decide_eq_decide]; unfold F; omega
  · rw [if_neg h]; simp only [Option.bind_some]; congr 1; symm; rw [decide_eq_false_iff_not]; unfold F; omega

theorem wakes : delverlaw08_wakes.f = some true := by kernel_rfl

theorem neg_eq (a : Int) : ints_Neg.f a = some (if F a ∧ F (0 - a) then (0 - a, true) else (0, false)) := by
  unfold ints_Neg.f
  rw [sub_eq]
  simp only [Option.bind_some]
  have f0 : F 0 := by unfold F; omega
  simp only [f0, true_and]
theorem num8 (k : Nat) (a b : Int) : delverref04_Num.f (k + 2) 8 a b = some (if F a ∧ F b ∧ F (a + b) then (a + b, true) else (0, false)) := by
  simp only [delverref04_Num.f, delverref04_Num.j0, infit, Option.bind_some]
  by_cases ha : F a
  · by_cases hb : F b
    · rw [show wrap64 (a + b) = a + b from by unfold wrap64; unfold F at ha hb; omega]
      by_cases h : F (a + b) <;> simp [ha, hb, h]
    · simp [ha, hb]
  · simp [ha]
theorem num9 (k : Nat) (a b : Int) : delverref04_Num.f (k + 2) 9 a b = some (if F a ∧ F b ∧ F (a - b) then (a - b, true) else (0, false)) := by
  simp only [delverref04_Num.f, delverref04_Num.j0, infit, Option.bind_some]
  by_cases ha : F a
  · by_cases hb : F b
    · rw [show wrap64 (a - b) = a - b from by unfold wrap64; unfold F at ha hb; omega]
      by_cases h : F (a - b) <;> simp [ha, hb, h]
    · simp [ha, hb]
  · simp [ha]
theorem num10 (k : Nat) (a b : Int) : delverref04_Num.f (k + 2) 10 a b = some (if F a ∧ F b ∧ F (a * b) then (a * b, true) else (0, false)) := by
  simp only [delverref04_Num.f, delverref04_Num.j0, infit, Option.bind_some]
  by_cases ha : F a
  · by_cases hb : F b
    · rw [mulw ha hb]
      by_cases h : F (a * b) <;> simp [ha, hb, h]
    · simp [ha, hb]
  · simp [ha]
theorem num11 (k : Nat) (a b : Int) : delverref04_Num.f (k + 2) 11 a b = some (if F a ∧ F b ∧ b ≠ 0 ∧ F (Int.tdiv a b) then (Int.tdiv a b, true) else (0, false)) := by
  simp only [delverref04_Num.f, delverref04_Num.j0, delverref04_Num.j1, infit, Option.bind_some]
  by_cases ha : F a
  · by_cases hb : F b
    · rw [divw ha hb]
      by_cases h0 : b = 0
      · simp [ha, hb, h0]
      · by_cases h : F (Int.tdiv a b) <;> simp [ha, hb, h, h0]
    · simp [ha, hb]
  · simp [ha]
theorem tmodb (a b : Int) : (Int.tmod a b).natAbs ≤ a.natAbs := by
  rw [Int.natAbs_tmod]
  exact Nat.mod_le _ _
theorem num12 (k : Nat) (a b : Int) : delverref04_Num.f (k + 2) 12 a b = some (if F a ∧ F b ∧ b ≠ 0 ∧ F (Int.tmod a b) then (Int.tmod a b, true) else (0, false)) := by
  simp only [delverref04_Num.f, delverref04_Num.j0, delverref04_Num.j1, infit, Option.bind_some]
  by_cases ha : F a
  · by_cases hb : F b
    · rw [divw ha hb]
      have e : Int.tmod a b = a - Int.tdiv a b * b := by
        have := Int.tmod_add_tdiv_mul a b
        omega
      have m := tmodb a b
      have w1 : wrap64 (Int.tdiv a b * b) = Int.tdiv a b * b := by
        unfold F at ha
        unfold wrap64
        omega
      have w2 : wrap64 (a - Int.tdiv a b * b) = Int.tmod a b := by
        rw [← e]
        unfold F at ha
        unfold wrap64
        omega
      rw [w1, w2]
      by_cases h0 : b = 0
      · simp [ha, hb, h0]
      · by_cases h : F (Int.tmod a b) <;> simp [ha, hb, h, h0]
    · simp [ha, hb]
  · simp [ha]
theorem num13 (k : Nat) (a : Int) : delverref04_Num.f (k + 2) 13 a 0 = some (if F a ∧ F (0 - a) then (0 - a, true) else (0, false)) := by
  have f0 : F 0 := by unfold F; omega
  simp only [delverref04_Num.f, delverref04_Num.j0, delverref04_Num.j1, infit, Option.bind_some]
  by_cases ha : F a
  · rw [show wrap64 (-a) = 0 - a from by unfold wrap64; unfold F at ha; omega]
    by_cases h : F (0 - a)
    · simp only [ha, h, f0]; simp
    · simp only [ha, h, f0]; simp
  · simp [ha]
theorem s0 (k : Nat) (a b : Int) : delverlaw08_IntsExact.l0 (k + 3) a b [8, 9, 10, 11, 12, 13] 0 = delverlaw08_IntsExact.l0 (k + 2) a b [8, 9, 10, 11, 12, 13] 1 := by
  rw [delverlaw08_IntsExact.l0]
  rw [show rd [8, 9, 10, 11, 12, 13] 0 = 8 from rfl, show wrap64 (0 + 1) = 1 from by unfold wrap64; omega]
  rw [if_pos (by decide), if_pos (by decide)]
  rw [if_pos rfl]; rw [add_eq, num8]
  simp only [Option.bind_some, bne_self_eq_false, Bool.false_eq_true, if_false, if_true]
theorem s1 (k : Nat) (a b : Int) : delverlaw08_IntsExact.l0 (k + 3) a b [8, 9, 10, 11, 12, 13] 1 = delverlaw08_IntsExact.l0 (k + 2) a b [8, 9, 10, 11, 12, 13] 2 := by
  rw [delverlaw08_IntsExact.l0]
  rw [show rd [8, 9, 10, 11, 12, 13] 1 = 9 from rfl, show wrap64 (1 + 1) = 2 from by unfold wrap64; omega]
  rw [if_pos (by decide), if_pos (by decide)]
  rw [if_neg (by decide)]; rw [if_pos rfl]; rw [sub_eq, num9]
  simp only [Option.bind_some, bne_self_eq_false, Bool.false_eq_true, if_false, if_true]
theorem s2 (k : Nat) (a b : Int) : delverlaw08_IntsExact.l0 (k + 3) a b [8, 9, 10, 11, 12, 13] 2 = delverlaw08_IntsExact.l0 (k + 2) a b [8, 9, 10, 11, 12, 13] 3 := by
  rw [delverlaw08_IntsExact.l0]
  rw [show rd [8, 9, 10, 11, 12, 13] 2 = 10 from rfl, show wrap64 (2 + 1) = 3 from by unfold wrap64; omega]
  rw [if_pos (by decide), if_pos (by decide)]
  rw [if_neg (by decide)]; rw [if_neg (by decide)]; rw [if_pos rfl]; rw [mul_eq, num10]
  simp only [Option.bind_some, bne_self_eq_false, Bool.false_eq_true, if_false, if_true]
theorem s3 (k : Nat) (a b : Int) : delverlaw08_IntsExact.l0 (k + 3) a b [8, 9, 10, 11, 12, 13] 3 = delverlaw08_IntsExact.l0 (k + 2) a b [8, 9, 10, 11, 12, 13] 4 := by
  rw [delverlaw08_IntsExact.l0]
  rw [show rd [8, 9, 10, 11, 12, 13] 3 = 11 from rfl, show wrap64 (3 + 1) = 4 from by unfold wrap64; omega]
  rw [if_pos (by decide), if_pos (by decide)]
  rw [if_neg (by decide)]; rw [if_neg (by decide)]; rw [if_neg (by decide)]; rw [if_pos rfl]; rw [div_eq, num11]
  simp only [Option.bind_some, bne_self_eq_false, Bool.false_eq_true, if_false, if_true]
theorem s4 (k : Nat) (a b : Int) : delverlaw08_IntsExact.l0 (k + 3) a b [8, 9, 10, 11, 12, 13] 4 = delverlaw08_IntsExact.l0 (k + 2) a b [8, 9, 10, 11, 12, 13] 5 := by
  rw [delverlaw08_IntsExact.l0]
  rw [show rd [8, 9, 10, 11, 12, 13] 4 = 12 from rfl, show wrap64 (4 + 1) = 5 from by unfold wrap64; omega]
  rw [if_pos (by decide), if_pos (by decide)]
  rw [if_neg (by decide)]; rw [if_neg (by decide)]; rw [if_neg (by decide)]; rw [if_neg (by decide)]; rw [if_pos rfl]; rw [rem_eq, num12]
  simp only [Option.bind_some, bne_self_eq_false, Bool.false_eq_true, if_false, if_true]
theorem s5 (k : Nat) (a b : Int) : delverlaw08_IntsExact.l0 (k + 3) a b [8, 9, 10, 11, 12, 13] 5 = delverlaw08_IntsExact.l0 (k + 2) a b [8, 9, 10, 11, 12, 13] 6 := by
  rw [delverlaw08_IntsExact.l0]
  rw [show rd [8, 9, 10, 11, 12, 13] 5 = 13 from rfl, show wrap64 (5 + 1) = 6 from by unfold wrap64; omega]
  rw [if_pos (by decide), if_pos (by decide)]
  rw [if_neg (by decide)]; rw [if_neg (by decide)]; rw [if_neg (by decide)]; rw [if_neg (by decide)]; rw [if_neg (by decide)]; rw [neg_eq, num13]
  simp only [Option.bind_some, bne_self_eq_false, Bool.false_eq_true, if_false, if_true]
theorem IntsExact : delverlaw08_IntsExact.Pure := by
  intro a b _ _
  refine ⟨9, ?_⟩
  unfold delverlaw08_IntsExact.f
  rw [s0, s1, s2, s3, s4, s5, delverlaw08_IntsExact.l0, if_neg (by decide), fits, infit]
  simp only [Option.bind_some, beq_self_eq_true, if_true, wakes]

end Go.Proofs.Ytblekbpchhhkkaa.Pure
