/- Plain laws of terms: counts of sums and of multiples. -/
import Derived.Test.YtddcbnillkefhaaTq
set_option linter.unusedVariables false
set_option linter.unusedSimpArgs false
namespace Go.Proofs.Ytddcbnillkefhaa.Ax
open Go Go.RowKit
def ord : Int → List (Int × Int) → Prop
  | _, [] => True
  | lo, m :: r => lo < m.1 ∧ m.1 < 40 ∧ m.2 ≠ 0 ∧ -1048576 ≤ m.2 ∧ m.2 ≤ 1048576 ∧ ord m.1 r
theorem good_succ (m : Int × Int) (r : List (Int × Int)) (j : Nat) (hj : 0 < j) (h : good (m :: r) (j + 1)) : good r j := by
  obtain ⟨a, b, c, d, e, f⟩ := h
  refine ⟨by simpa using a, by simpa using b, fun _ => ?_, by simpa using d, by simpa using e, by simpa using f⟩
  have := c (by omega)
  cases j with
  | zero => omega
  | succ j => simpa using this
theorem ord_of_good : ∀ (l : List (Int × Int)) (lo : Int), (∀ j, j < l.length → good l j) → (0 < l.length → lo < (l.getD 0 (0, 0)).1) → ord lo l
  | [], _, _, _ => trivial
  | m :: r, lo, h, h0 => by
    obtain ⟨a, b, c, d, e, f⟩ := h 0 (by simp)
    refine ⟨by simpa using h0 (by simp), by simpa using b, by simpa using d, by simpa using e, by simpa using f, ord_of_good r m.1 (fun j hj => ?_) (fun hr => ?_)⟩
    · cases j with
      | zero =>
        obtain ⟨a1, b1, c1, d1, e1, f1⟩ := h 1 (by simpa using hj)
        exact ⟨by simpa using a1, by simpa using b1, fun c => by omega, by simpa using d1, by simpa using e1, by simpa using f1⟩
      | succ j => exact good_succ m r (j + 1) (by omega) (h (j + 2) (by simp only [List.length_cons]; omega))
    · obtain ⟨a1, b1, c1, d1, e1, f1⟩ := h 1 (by simpa using hr)
      simpa using c1 (by omega)
theorem good_of_ord : ∀ (l : List (Int × Int)) (lo : Int), -1 ≤ lo → ord lo l → ∀ j, j < l.length → good l j ∧ lo < (l.getD j (0, 0)).1
  | [], _, _, _, j, hj => by simp at hj
  | m :: r, lo, hlo, ⟨a, b, c, d, e, f⟩, 0, hj => ⟨⟨by simp; omega, by simpa using b, fun c => by omega, by simpa using c, by simpa using d, by simpa using e⟩, by simpa using a⟩
  | m :: r, lo, hlo, ⟨a, b, c, d, e, f⟩, j + 1, hj => by
    have hj' : j < r.length := by simpa using hj
    obtain ⟨⟨a1, b1, c1, d1, e1, f1⟩, g1⟩ := good_of_ord r m.1 (by omega) f j hj'
    refine ⟨⟨by simpa using a1, by simpa using b1, fun _ => ?_, by simpa using d1, by simpa using e1, by simpa using f1⟩, by simp at g1 ⊢; omega⟩
    cases j with
    | zero => simpa using g1
    | succ j => simpa using c1 (by omega)
theorem right_iff (t : Int × List (Int × Int)) : right t ↔ (-1099511627776 ≤ t.1 ∧ t.1 ≤ 1099511627776) ∧ t.2.length ≤ 40 ∧ ord (-1) t.2 := by
  obtain ⟨c, l⟩ := t
  constructor
  · rintro ⟨h1, h2, h3, h4⟩
    refine ⟨⟨h1, h2⟩, h3, ord_of_good l (-1) h4 fun h => ?_⟩
    have := (h4 0 h).1
    show (-1 : Int) < (l.getD 0 (0, 0)).1
    have h5 : 0 ≤ (l.getD 0 (0, 0)).1 := this
    omega
  · rintro ⟨⟨h1, h2⟩, h3, h4⟩
    exact ⟨h1, h2, h3, fun j hj => (good_of_ord l (-1) (by omega) h4 j hj).1⟩
theorem ord_weak : ∀ (l : List (Int × Int)) {lo lo' : Int}, lo' ≤ lo → ord lo l → ord lo' l
  | [], _, _, _, _ => trivial
  | m :: r, lo, lo', h, ⟨a, b⟩ => ⟨by omega, b⟩
theorem kF_low : ∀ (l : List (Int × Int)) (lo v : Int), ord lo l → v ≤ lo → kF l v = 0
  | [], _, _, _, _ => rfl
  | m :: r, lo, v, ⟨a, b, c, d, e, f⟩, h => by
    unfold kF
    rw [if_neg (by omega)]
    exact kF_low r m.1 v f (by omega)
theorem kF_high : ∀ (l : List (Int × Int)) (lo v : Int), ord lo l → 40 ≤ v → kF l v = 0
  | [], _, _, _, _ => rfl
  | m :: r, lo, v, ⟨a, b, c, d, e, f⟩, h => by
    unfold kF
    rw [if_neg (by omega)]
    exact kF_high r m.1 v f h
theorem kF_keep (m : Int × Int) (r : List (Int × Int)) (v : Int) (h : m.1 = v → m.2 = 0 → kF r v = 0) : kF (keep m r) v = if m.1 = v then m.2 else kF r v := by
  unfold keep
  by_cases hz : m.2 = 0
  · rw [if_pos hz]
    by_cases hv : m.1 = v
    · rw [if_pos hv, h hv hz, hz]
    · rw [if_neg hv]
  · rw [if_neg hz, kF]
theorem kF_mg (v : Int) : ∀ (x y : List (Int × Int)) (lo : Int), ord lo x → ord lo y → kF (mg x y) v = kF x v + kF y v
  | [], [], lo, _, _ => by rw [mg]; rfl
  | a :: x, [], lo, hx, hy => by
    obtain ⟨x1, x2, x3, x4, x5, x6⟩ := hx
    rw [mg_l, kF_keep _ _ _ (fun _ h => absurd h x3), kF_mg v x [] a.1 x6 trivial]
    simp only [kF]
    by_cases hv : a.1 = v <;> simp [hv]
  | [], b :: y, lo, hx, hy => by
    obtain ⟨y1, y2, y3, y4, y5, y6⟩ := hy
    rw [mg_r, kF_keep _ _ _ (fun _ h => absurd h y3), kF_mg v [] y b.1 trivial y6]
    simp only [kF]
    by_cases hv : b.1 = v <;> simp [hv]
  | a :: x, b :: y, lo, hx, hy => by
    obtain ⟨x1, x2, x3, x4, x5, x6⟩ := hx
    obtain ⟨y1, y2, y3, y4, y5, y6⟩ := hy
    by_cases h1 : a.1 < b.1
    · rw [mg_lt x y (decide_eq_true h1), kF_keep _ _ _ (fun _ h => absurd h x3), kF_mg v x (b :: y) a.1 x6 ⟨h1, y2, y3, y4, y5, y6⟩]
      by_cases hv : a.1 = v
      · have : kF (b :: y) v = 0 := kF_low (b :: y) a.1 v ⟨h1, y2, y3, y4, y5, y6⟩ (by omega)
        rw [this, kF, if_pos hv, if_pos hv]; omega
      · rw [if_neg hv, show kF (a :: x) v = kF x v from by rw [kF, if_neg hv]]
    · by_cases h2 : b.1 < a.1
      · rw [mg_gt x y (decide_eq_false h1) (decide_eq_true h2), kF_keep _ _ _ (fun _ h => absurd h y3), kF_mg v (a :: x) y b.1 ⟨h2, x2, x3, x4, x5, x6⟩ y6]
        by_cases hv : b.1 = v
        · have : kF (a :: x) v = 0 := kF_low (a :: x) b.1 v ⟨h2, x2, x3, x4, x5, x6⟩ (by omega)
          rw [this, kF, if_pos hv, if_pos hv]; omega
        · rw [if_neg hv]
          conv => rhs; rw [show kF (b :: y) v = kF y v from by rw [kF, if_neg hv]]
      · have hab : a.1 = b.1 := by omega
        have hw : IntKind.i64.wrap (a.2 + b.2) = a.2 + b.2 := wrap_eq _ (by omega) (by omega)
        have hr := kF_mg v x y a.1 x6 (hab ▸ y6)
        rw [mg_eq x y (decide_eq_false h1) (decide_eq_false h2), kF_keep _ _ _ (fun hv _ => by
          dsimp only at hv
          rw [hr, kF_low x a.1 v x6 (by omega), kF_low y b.1 v y6 (by omega)]; rfl), hr]
        dsimp only
        rw [kF, kF]
        by_cases hv : a.1 = v
        · rw [if_pos hv, if_pos hv, if_pos (by omega), hw]
        · rw [if_neg hv, if_neg hv, if_neg (by omega)]
termination_by x y => x.length + y.length
theorem keep_len (m : Int × Int) (r : List (Int × Int)) : (keep m r).length ≤ r.length + 1 := by unfold keep; split <;> simp
theorem times_ok (a b most : Int) (h0 : 0 ≤ most) (h1 : most ≤ 1099511627776) (h : (timesF a b most).2 = true) : (timesF a b most).1 = a * b ∧ -most ≤ a * b ∧ a * b ≤ most := by
  unfold timesF at h ⊢
  by_cases hz : a = 0 ∨ b = 0
  · rw [if_pos hz]
    have : a * b = 0 := by rcases hz with rfl | rfl <;> simp
    rw [this]; exact ⟨rfl, by omega, h0⟩
  · rw [if_neg hz] at h ⊢
    by_cases hr : -most ≤ a ∧ a ≤ most ∧ -most ≤ b ∧ b ≤ most
    · rw [if_pos hr] at h ⊢
      have hq : (a.natAbs : Int) ≤ most / (b.natAbs : Int) := of_decide_eq_true h
      have hb : 0 < (b.natAbs : Int) := by omega
      have hm : (a.natAbs : Int) * (b.natAbs : Int) ≤ most := (Int.le_ediv_iff_mul_le hb).1 hq
      have hab : ((a * b).natAbs : Int) ≤ most := by rw [Int.natAbs_mul]; exact_mod_cast hm
      have h3 : -most ≤ a * b ∧ a * b ≤ most := by omega
      exact ⟨wrap_eq _ (by omega) (by omega), h3⟩
    · rw [if_neg hr] at h; cases h
theorem scL_len (k : Int) : ∀ l : List (Int × Int), (scL k l).1.length ≤ l.length
  | [] => Nat.le_refl _
  | m :: r => by
    simp only [scL]
    have := keep_len (m.1, (timesF m.2 k 1048576).1) (scL k r).1
    have := scL_len k r
    simp only [List.length_cons]; omega
theorem kF_scL (k v : Int) : ∀ (l : List (Int × Int)) (lo : Int), ord lo l → (scL k l).2 = true → kF (scL k l).1 v = k * kF l v
  | [], _, _, _ => by simp [scL, kF]
  | m :: r, lo, ⟨a, b, c, d, e, f⟩, h => by
    simp only [scL, Bool.and_eq_true] at h
    obtain ⟨h1, h2⟩ := times_ok m.2 k 1048576 (by omega) (by omega) h.1
    have hr := kF_scL k v r m.1 f h.2
    simp only [scL]
    rw [kF_keep _ _ _ (fun hv _ => by dsimp only at hv; rw [hr, kF_low r m.1 v f (by omega)]; simp), hr]
    dsimp only
    rw [h1, kF]
    by_cases hv : m.1 = v
    · rw [if_pos hv, if_pos hv, Int.mul_comm]
    · rw [if_neg hv, if_neg hv]
theorem kF_bound (v : Int) : ∀ (l : List (Int × Int)) (lo : Int), ord lo l → -1048576 ≤ kF l v ∧ kF l v ≤ 1048576
  | [], _, _ => by simp [kF]
  | m :: r, lo, ⟨a, b, c, d, e, f⟩ => by
    rw [kF]
    split
    · exact ⟨d, e⟩
    · exact kF_bound v r m.1 f
theorem fits_ok {t : Int × List (Int × Int)} (h : (fitsF t).2 = 0) : right t ∧ (fitsF t).1 = t := by
  unfold fitsF at h ⊢
  split
  · rename_i r; exact ⟨r, rfl⟩
  · rename_i r; rw [if_neg r] at h; cases h
theorem add_ok {a b : Int × List (Int × Int)} (h : (addF a b).2 = 0) : right a ∧ right b ∧ right (sumF a b) ∧ (addF a b).1 = sumF a b := by
  unfold addF at h ⊢
  split
  · rename_i r
    rw [if_pos r] at h
    obtain ⟨h1, h2⟩ := fits_ok h
    exact ⟨r.1, r.2, h1, h2⟩
  · rename_i r; rw [if_neg r] at h; cases h
theorem scale_ok {a : Int × List (Int × Int)} {k : Int} (h : (scaleF a k).2 = 0) : right a ∧ (timesF a.1 k 1099511627776).2 = true ∧ (scL k a.2).2 = true ∧ (scaleF a k).1 = ((timesF a.1 k 1099511627776).1, (scL k a.2).1) := by
  unfold scaleF at h ⊢
  split
  · rename_i r
    rw [if_pos r] at h
    split
    · rename_i q
      simp only [Bool.and_eq_true] at q
      exact ⟨r, q.1, q.2, rfl⟩
    · rename_i q; rw [if_neg q] at h; cases h
  · rename_i r; rw [if_neg r] at h; cases h
end Go.Proofs.Ytddcbnillkefhaa.Ax
