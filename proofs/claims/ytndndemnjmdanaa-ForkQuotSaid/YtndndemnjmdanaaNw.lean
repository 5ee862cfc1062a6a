/- Layer norm by the logic: the statements' guard; NormShort. -/
import Derived.Test.YtndndemnjmdanaaNb
set_option linter.unusedVariables false
set_option linter.unusedSimpArgs false
namespace Go.Proofs.Ytndndemnjmdanaa.Ax
open Go Go.RowKit
theorem wk1 : oneF ((-3, [(0, 2)]), false) = (((-1, [(0, 1)]), false), 0, 0) := by kernel_rfl
theorem wk2 : oneF ((-3, [(0, 2)]), true) = (((0, []), false), 1, 0) := by kernel_rfl
theorem wk3 : allF [] = ([], 2, 0) := by kernel_rfl
def wakes14 : Ctr := { A := Unit, enc := fun _ => [], dom := fun _ => True, res := fun _ _ => .tt }
theorem gL_dvd : ∀ (l : List (Int × Int)) (g : Nat), gL g l ∣ g ∧ ∀ m ∈ l, gL g l ∣ m.2.natAbs
  | [], g => ⟨Nat.dvd_refl _, fun m hm => by cases hm⟩
  | m :: r, g => by
    obtain ⟨h1, h2⟩ := gL_dvd r (Int.gcd g m.2)
    have h3 : gL (Int.gcd g m.2) r ∣ g := Nat.dvd_trans h1 (Nat.gcd_dvd_left _ _)
    have h4 : gL (Int.gcd g m.2) r ∣ m.2.natAbs := Nat.dvd_trans h1 (Nat.gcd_dvd_right _ _)
    exact ⟨h3, fun x hx => by
      rcases List.mem_cons.1 hx with rfl | hx
      · exact h4
      · exact h2 x hx⟩
theorem dvd_gL (n : Nat) : ∀ (l : List (Int × Int)) (g : Nat), n ∣ g → (∀ m ∈ l, n ∣ m.2.natAbs) → n ∣ gL g l
  | [], g, h, _ => h
  | m :: r, g, h, hm => dvd_gL n r _ (Nat.dvd_gcd h (hm m List.mem_cons_self)) fun x hx => hm x (List.mem_cons_of_mem _ hx)
theorem tdiv_nat (a : Int) (g : Nat) (h : g ∣ a.natAbs) : (a.tdiv g).natAbs * g = a.natAbs := by
  rw [Int.natAbs_tdiv]
  exact Nat.div_mul_cancel h
theorem one_short {c : (Int × List (Int × Int)) × Bool} (h1 : (oneF c).2.2 = 0) (h2 : (oneF c).2.1 = 0) :
    right c.1 ∧ c.1.2 ≠ [] ∧ (c.2 = true → c.1.1.tmod (gL 0 c.1.2) = 0) ∧ oneF c = (((sgF c * upF c.1.1 (gL 0 c.1.2), c.1.2.map fun m => (m.1, (sgF c * m.2).tdiv (gL 0 c.1.2))), c.2), 0, 0) := by
  unfold oneF at h1 h2 ⊢
  split
  · rename_i r
    rw [if_pos r] at h1 h2
    split
    · rename_i n
      rw [if_pos n] at h2
      exfalso
      have h2 : alwaysF c = 0 := h2
      unfold alwaysF at h2
      split at h2 <;> cases h2
    · rename_i n
      rw [if_neg n] at h1 h2
      split
      · rename_i q; rw [if_pos q] at h2; cases h2
      · rename_i q
        exact ⟨r, n, fun e => Classical.byContradiction fun z => q ⟨e, z⟩, rfl⟩
  · rename_i r; rw [if_neg r] at h1; cases h1
theorem one_what {c : (Int × List (Int × Int)) × Bool} (h2 : (oneF c).2.1 ≠ 0) : (oneF c).1.1.2 = [] := by
  unfold oneF at h2 ⊢
  split
  · rename_i r
    rw [if_pos r] at h2
    split
    · rfl
    · rename_i n
      rw [if_neg n] at h2
      split
      · rfl
      · rename_i q; rw [if_neg q] at h2; exact absurd rfl h2
  · rfl
theorem one_right {c : (Int × List (Int × Int)) × Bool} (h : right c.1) : (oneF c).2.2 = 0 := by
  unfold oneF
  rw [if_pos h]
  split
  · rfl
  · split <;> rfl
theorem sg_abs (c : (Int × List (Int × Int)) × Bool) (k : Int) : (sgF c * k).natAbs = k.natAbs := by unfold sgF; split <;> omega
/-- no number above one divides all counts of a short form -/
theorem short_prime {c : (Int × List (Int × Int)) × Bool} (h1 : (oneF c).2.2 = 0) (h2 : (oneF c).2.1 = 0) (d : Int) (hd : 2 ≤ d) : (oneF c).1.1.2.all (fun m => m.2.tmod d == 0) = false := by
  obtain ⟨r, n, -, e⟩ := one_short h1 h2
  rw [e]
  obtain ⟨-, hg⟩ := gL_le c.1.2 0 (-1) ((right_iff _).1 r).2.2 (by omega)
  have hg := hg (.inr n)
  cases hall : (c.1.2.map fun m => (m.1, (sgF c * m.2).tdiv (gL 0 c.1.2 : Nat))).all (fun m => m.2.tmod d == 0) with
  | false => rfl
  | true =>
    exfalso
    rw [List.all_eq_true] at hall
    have hdv : d.natAbs * gL 0 c.1.2 ∣ gL 0 c.1.2 := by
      refine dvd_gL _ _ 0 (Nat.dvd_zero _) fun m hm => ?_
      have hq := hall _ (List.mem_map.2 ⟨m, hm, rfl⟩)
      have hq : ((sgF c * m.2).tdiv (gL 0 c.1.2 : Nat)).tmod d = 0 := by simpa using hq
      have hq2 : d.natAbs ∣ ((sgF c * m.2).tdiv (gL 0 c.1.2 : Nat)).natAbs := by
        have := congrArg Int.natAbs hq
        rw [Int.natAbs_tmod] at this
        exact Nat.dvd_of_mod_eq_zero this
      have ht := tdiv_nat (sgF c * m.2) (gL 0 c.1.2) (by rw [sg_abs]; exact (gL_dvd c.1.2 0).2 m hm)
      rw [sg_abs] at ht
      rw [← ht]
      exact Nat.mul_dvd_mul_right hq2 _
    have := Nat.le_of_dvd hg hdv
    have h3 : 2 * gL 0 c.1.2 ≤ d.natAbs * gL 0 c.1.2 := Nat.mul_le_mul_right _ (by omega)
    omega
/-- the first count of an Eq's short form is above nought -/
theorem short_first {c : (Int × List (Int × Int)) × Bool} (h1 : (oneF c).2.2 = 0) (h2 : (oneF c).2.1 = 0) (he : c.2 = true) : ((oneF c).1.1.2.getD 0 (0, 0)).2 > 0 := by
  obtain ⟨r, n, -, e⟩ := one_short h1 h2
  rw [e]
  have ho := ((right_iff _).1 r).2.2
  obtain ⟨-, hg⟩ := gL_le c.1.2 0 (-1) ho (by omega)
  have hg := hg (.inr n)
  have hdv := (gL_dvd c.1.2 0).2
  have hs : sgF c = if c.2 = true ∧ (c.1.2.getD 0 (0, 0)).2 < 0 then -1 else 1 := rfl
  revert hdv hs hg ho
  generalize gL 0 c.1.2 = g
  generalize sgF c = s
  cases hl : c.1.2 with
  | nil => exact absurd hl n
  | cons m r =>
    intro ho hg hdv hs
    obtain ⟨-, -, hne, -⟩ := ho
    have hm := hdv m List.mem_cons_self
    simp only [List.getD_cons_zero, List.map_cons] at hs ⊢
    have hp : 0 < s * m.2 := by
      rw [hs]
      split
      · rename_i q; have := q.2; omega
      · rename_i q
        have : ¬ m.2 < 0 := fun z => q ⟨he, z⟩
        omega
    have ht := tdiv_nat (s * m.2) g (by
      have e5 : (s * m.2).natAbs = m.2.natAbs := by rw [hs]; split <;> omega
      rw [e5]; exact hm)
    have h0 : 0 ≤ (s * m.2).tdiv g := Int.tdiv_nonneg (by omega) (by omega)
    have h9 : (s * m.2).tdiv g ≠ 0 := fun z => by rw [z] at ht; simp at ht; omega
    omega
end Go.Proofs.Ytndndemnjmdanaa.Ax
