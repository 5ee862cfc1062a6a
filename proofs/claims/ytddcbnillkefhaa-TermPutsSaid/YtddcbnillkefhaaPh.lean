/- Layer term: TermPuts, the plain part. -/
import Derived.Test.YtddcbnillkefhaaPg
set_option linter.unusedVariables false
set_option linter.unusedSimpArgs false
namespace Go.Proofs.Ytddcbnillkefhaa.Ax
open Go Go.RowKit
theorem ord_dl (v : Int) : ∀ (l : List (Int × Int)) (lo : Int), ord lo l → ord lo (dlF v l)
  | [], _, h => h
  | m :: r, lo, h => by
    obtain ⟨h1, h2, h3, h4, h5, h6⟩ := h
    have ih := ord_dl v r m.1 h6
    unfold dlF at ih ⊢
    by_cases e : m.1 = v
    · rw [List.filter_cons_of_neg (by simp [put_pred, e])]; exact ord_weak _ (by omega) ih
    · rw [List.filter_cons_of_pos (by simp [put_pred, e])]; exact ⟨h1, h2, h3, h4, h5, ih⟩
theorem right_dl {a : Int × List (Int × Int)} (v : Int) (h : right a) : right (a.1, dlF v a.2) := by
  obtain ⟨a1, a2, a3⟩ := (right_iff a).1 h
  exact (right_iff _).2 ⟨a1, Nat.le_trans (dlF_len v a.2) a2, ord_dl v a.2 _ a3⟩
theorem kF_dl (v : Int) : ∀ (l : List (Int × Int)), kF (dlF v l) v = 0
  | [] => rfl
  | m :: r => by
    have ih := kF_dl v r
    unfold dlF at ih ⊢
    by_cases e : m.1 = v
    · rw [List.filter_cons_of_neg (by simp [put_pred, e])]; exact ih
    · rw [List.filter_cons_of_pos (by simp [put_pred, e]), kF, if_neg e]; exact ih
theorem mg_ins (v : Int) : ∀ (l : List (Int × Int)) (lo : Int), ord lo l → kF l v ≠ 0 → mg (dlF v l) [(v, kF l v)] = l
  | [], _, _, h => absurd rfl h
  | m :: r, lo, h, hk => by
    obtain ⟨h1, h2, h3, h4, h5, h6⟩ := h
    by_cases e : m.1 = v
    · have hd : dlF v (m :: r) = r := by
        have := dl_none (v := v) h6 (kF_low r m.1 v h6 (by omega))
        unfold dlF at this ⊢
        rw [List.filter_cons_of_neg (by simp [put_pred, e]), this]
      rw [hd, kF, if_pos e]
      have hm : (v, m.2) = m := Prod.ext e.symm rfl
      rw [hm]
      cases r with
      | nil => rw [mg_r, mg_nil]; unfold keep; rw [if_neg h3]
      | cons n r =>
        have hn := h6.1
        rw [mg_gt r [] (decide_eq_false (by omega)) (decide_eq_true hn), mg_right (n :: r) m.1 h6]; unfold keep; rw [if_neg h3]
    · rw [kF, if_neg e] at hk ⊢
      have hlt : m.1 < v := Classical.byContradiction fun c => hk (kF_low r m.1 v h6 (by omega))
      have hd : dlF v (m :: r) = m :: dlF v r := by unfold dlF; rw [List.filter_cons_of_pos (by simp [put_pred, e])]
      rw [hd, mg_lt (b := (v, kF r v)) _ _ (decide_eq_true hlt), mg_ins v r m.1 h6 hk]; unfold keep; rw [if_neg h3]
theorem scale_nil (k : Int) : scaleF (0, []) k = ((0, []), 0) := by
  unfold scaleF
  rw [if_pos (by decide : right (0, []))]
  simp only [scL, show timesF 0 k 1099511627776 = (0, true) from if_pos (.inl rfl)]; rfl
theorem put_nil {a : Int × List (Int × Int)} (v : Int) (h : right a) : putF a v (0, []) = ((a.1, dlF v a.2), 0) := by
  unfold putF
  rw [if_pos ⟨h, by decide⟩, scale_nil, if_pos rfl]
  exact add_zero (right_dl v h)
theorem scale_0c {b : Int × List (Int × Int)} (k : Int) (h : right b) : (scaleF b k).2 = 0 ∨ (scaleF b k).2 = 12 := by
  unfold scaleF
  rw [if_pos h]
  split
  · exact .inl rfl
  · exact .inr rfl
theorem put_0c {a b : Int × List (Int × Int)} (v : Int) (ha : right a) (hb : right b) : (putF a v b).2 = 0 ∨ (putF a v b).2 = 12 := by
  unfold putF
  rw [if_pos ⟨ha, hb⟩]
  rcases scale_0c (kF a.2 v) hb with h | h
  · rw [if_pos h]
    unfold addF
    rw [if_pos ⟨right_dl v ha, scale_right h⟩]
    unfold fitsF
    split
    · exact .inl rfl
    · exact .inr rfl
  · rw [if_neg (by rw [h]; decide)]; exact .inr h
theorem put_add {a b : Int × List (Int × Int)} (v : Int) (ha : right a) (hb : right b) (h : (scaleF b (kF a.2 v)).2 = 0) : addF (a.1, dlF v a.2) (scaleF b (kF a.2 v)).1 = putF a v b := by
  unfold putF
  rw [if_pos ⟨ha, hb⟩, if_pos h]
theorem times_one (k : Int) (h : -1048576 ≤ k ∧ k ≤ 1048576) : timesF 1 k 1048576 = (k, true) := by
  unfold timesF
  by_cases hz : k = 0
  · rw [if_pos (.inr hz), hz]
  · rw [if_neg (by omega), if_pos ⟨by omega, by omega, h.1, h.2⟩, Int.one_mul, wrap_eq _ (by omega) (by omega)]
    refine Prod.ext rfl (decide_eq_true ?_)
    have hb : 0 < (k.natAbs : Int) := by omega
    exact (Int.le_ediv_iff_mul_le hb).2 (by show ((1 : Nat) : Int) * _ ≤ _; omega)
theorem put_self {a : Int × List (Int × Int)} {v : Int} (h : right a) (hv : 0 ≤ v ∧ v < 40) : putF a v (0, [(v, 1)]) = (a, 0) := by
  obtain ⟨a1, a2, a3⟩ := (right_iff a).1 h
  have hk := kF_bound v a.2 _ a3
  have rx : right (0, [(v, 1)]) := mono_right v 1 hv ⟨by decide, by decide, by decide⟩
  have es : scaleF (0, [(v, 1)]) (kF a.2 v) = ((0, keep (v, kF a.2 v) []), 0) := by
    unfold scaleF
    rw [if_pos rx]
    simp only [scL, show timesF 0 (kF a.2 v) 1099511627776 = (0, true) from if_pos (.inl rfl), times_one _ hk]; rfl
  have rs := scale_right (show (scaleF (0, [(v, 1)]) (kF a.2 v)).2 = 0 from by rw [es])
  unfold putF
  rw [if_pos ⟨h, rx⟩, es, if_pos rfl]
  have em : mg (dlF v a.2) (keep (v, kF a.2 v) []) = a.2 := by
    unfold keep
    split
    · rename_i c; rw [dl_none a3 c]; exact mg_right a.2 _ a3
    · rename_i c; exact mg_ins v a.2 _ a3 c
  rw [es] at rs
  unfold addF
  rw [if_pos ⟨right_dl v h, rs⟩]
  have e : sumF (a.1, dlF v a.2) (0, keep (v, kF a.2 v) []) = a := by
    unfold sumF
    dsimp only
    rw [em, wrap_eq _ (by omega) (by omega), Int.add_zero]
  rw [e]
  unfold fitsF
  rw [if_pos h]
end Go.Proofs.Ytddcbnillkefhaa.Ax
