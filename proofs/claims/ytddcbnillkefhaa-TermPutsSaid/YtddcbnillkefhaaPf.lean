/- Layer term: TermRing, the plain part. -/
import Derived.Test.YtddcbnillkefhaaPe
set_option linter.unusedVariables false
set_option linter.unusedSimpArgs false
namespace Go.Proofs.Ytddcbnillkefhaa.Ax
open Go Go.RowKit
theorem mg_comm : ∀ (x y : List (Int × Int)), mg x y = mg y x
  | [], [] => rfl
  | a :: x, [] => by rw [mg_l, mg_r, mg_comm x []]
  | [], b :: y => by rw [mg_r, mg_l, mg_comm [] y]
  | a :: x, b :: y => by
    by_cases h1 : a.1 < b.1
    · rw [mg_lt x y (decide_eq_true h1), mg_gt y x (decide_eq_false (by omega)) (decide_eq_true h1), mg_comm x (b :: y)]
    · by_cases h2 : b.1 < a.1
      · rw [mg_gt x y (decide_eq_false h1) (decide_eq_true h2), mg_lt y x (decide_eq_true h2), mg_comm (a :: x) y]
      · rw [mg_eq x y (decide_eq_false h1) (decide_eq_false h2), mg_eq y x (decide_eq_false h2) (decide_eq_false h1), mg_comm x y, Int.add_comm a.2 b.2, show a.1 = b.1 from by omega]
termination_by x y => x.length + y.length
theorem add_comm (a b : Int × List (Int × Int)) : addF a b = addF b a := by
  unfold addF sumF
  rw [mg_comm a.2 b.2, Int.add_comm a.1 b.1]
  by_cases h : right a ∧ right b
  · rw [if_pos h, if_pos ⟨h.2, h.1⟩]
  · rw [if_neg h, if_neg (fun c => h ⟨c.2, c.1⟩)]
theorem times_neg (a most : Int) (h1 : most ≤ 1099511627776) (h : -most ≤ a ∧ a ≤ most) (h2 : 1 ≤ most) : timesF a (-1) most = (-a, true) := by
  unfold timesF
  by_cases hz : a = 0
  · rw [if_pos (.inl hz), hz]; rfl
  · rw [if_neg (by omega), if_pos ⟨h.1, h.2, by omega, by omega⟩, wrap_eq _ (by omega) (by omega)]
    refine Prod.ext (by show a * -1 = -a; omega) (decide_eq_true ?_)
    show (a.natAbs : Int) ≤ most / (((-1 : Int).natAbs : Nat) : Int)
    rw [show (((-1 : Int).natAbs : Nat) : Int) = 1 from rfl, Int.ediv_one]; omega
def negL (l : List (Int × Int)) : List (Int × Int) := l.map fun m => (m.1, -m.2)
theorem scL_neg : ∀ (l : List (Int × Int)) (lo : Int), ord lo l → scL (-1) l = (negL l, true)
  | [], _, _ => rfl
  | m :: r, lo, h => by
    obtain ⟨h1, h2, h3, h4, h5, h6⟩ := h
    rw [scL, times_neg m.2 _ (by omega) ⟨h4, h5⟩ (by omega), scL_neg r m.1 h6]
    unfold keep
    rw [if_neg (by show ¬ (-m.2 = 0); omega)]; rfl
theorem scL_zero : ∀ (l : List (Int × Int)), scL 0 l = ([], true)
  | [] => rfl
  | m :: r => by
    have t : timesF m.2 0 1048576 = (0, true) := if_pos (.inr rfl)
    rw [scL, t, scL_zero r]; rfl
theorem mg_neg : ∀ (l : List (Int × Int)), mg l (negL l) = []
  | [] => by unfold negL; exact mg_nil
  | m :: r => by
    have h := mg_neg r
    unfold negL at h ⊢
    rw [List.map_cons, mg_eq (a := m) (b := (m.1, -m.2)) _ _ (decide_eq_false (Int.lt_irrefl _)) (decide_eq_false (Int.lt_irrefl _)), h]
    show keep (m.1, IntKind.i64.wrap (m.2 + -m.2)) [] = []
    rw [show m.2 + -m.2 = 0 from by omega]; rfl
theorem mg_right : ∀ (l : List (Int × Int)) (lo : Int), ord lo l → mg l [] = l
  | [], _, _ => mg_nil
  | m :: r, lo, h => by
    obtain ⟨h1, h2, h3, h4, h5, h6⟩ := h
    rw [mg_l, mg_right r m.1 h6]; unfold keep; rw [if_neg h3]
theorem scale_neg {a : Int × List (Int × Int)} (h : right a) : scaleF a (-1) = ((-a.1, negL a.2), 0) := by
  obtain ⟨a1, a2, a3⟩ := (right_iff a).1 h
  unfold scaleF
  rw [if_pos h, times_neg a.1 _ (by omega) a1 (by omega), scL_neg a.2 _ a3]; rfl
theorem scale_zero {a : Int × List (Int × Int)} (h : right a) : scaleF a 0 = ((0, []), 0) := by
  unfold scaleF
  rw [if_pos h, scL_zero, show timesF a.1 0 1099511627776 = (0, true) from if_pos (.inr rfl)]; rfl
theorem add_neg {a : Int × List (Int × Int)} (h : right a) : addF a (scaleF a (-1)).1 = ((0, []), 0) := by
  have hr := scale_right (k := -1) (a := a) (by rw [scale_neg h])
  unfold addF
  rw [if_pos ⟨h, hr⟩, scale_neg h]
  unfold sumF fitsF
  dsimp only
  rw [mg_neg, show a.1 + -a.1 = 0 from by omega, if_pos (by decide : right (IntKind.i64.wrap 0, []))]; rfl
theorem add_zero {a : Int × List (Int × Int)} (h : right a) : addF a (0, []) = (a, 0) := by
  obtain ⟨a1, a2, a3⟩ := (right_iff a).1 h
  have e : sumF a (0, []) = a := by
    unfold sumF
    dsimp only
    rw [mg_right a.2 _ a3, wrap_eq _ (by omega) (by omega), Int.add_zero]
  unfold addF
  rw [if_pos ⟨h, by decide⟩, e]
  unfold fitsF
  rw [if_pos h]
theorem dl_none {l : List (Int × Int)} {lo v : Int} (h : ord lo l) (hk : kF l v = 0) : dlF v l = l := by
  induction l generalizing lo with
  | nil => rfl
  | cons m r ih =>
    obtain ⟨h1, h2, h3, h4, h5, h6⟩ := h
    rw [kF] at hk
    have e : m.1 ≠ v := fun c => h3 (by rw [if_pos c] at hk; exact hk)
    rw [if_neg e] at hk
    unfold dlF at ih ⊢
    rw [List.filter_cons_of_pos (by simp [put_pred, e]), ih h6 hk]
theorem put_none {a b : Int × List (Int × Int)} {v : Int} (ha : right a) (hb : right b) (hk : kF a.2 v = 0) : putF a v b = (a, 0) := by
  unfold putF
  rw [if_pos ⟨ha, hb⟩, hk, scale_zero hb, if_pos rfl, dl_none ((right_iff a).1 ha).2.2 hk]
  exact add_zero ha
end Go.Proofs.Ytddcbnillkefhaa.Ax
