/- Plain laws: a short form holds for the numbers for which the constraint does. -/
import Derived.Test.YtndndemnjmdanaaNh
set_option linter.unusedVariables false
set_option linter.unusedSimpArgs false
namespace Go.Proofs.Ytndndemnjmdanaa.Ax
open Go Go.RowKit
def dot (v : List Int) : List (Int × Int) → Int
  | [] => 0
  | m :: r => m.2 * v.getD m.1.toNat 0 + dot v r
theorem valS_dot (v : List Int) : ∀ (l : List (Int × Int)) (c : Int), valS v c l = c + dot v l
  | [], c => by simp [valS, dot]
  | m :: r, c => by rw [valS, valS_dot v r, dot]; omega
theorem tdiv_mul_of (a : Int) (g : Nat) (h : g ∣ a.natAbs) : (a.tdiv g) * g = a := by
  have h1 : (g : Int) ∣ a := Int.ofNat_dvd_left.2 h
  exact Int.tdiv_mul_cancel h1
theorem dot_short (v : List Int) (sg : Int) (g : Nat) (hs : sg = 1 ∨ sg = -1) : ∀ (l : List (Int × Int)), (∀ m ∈ l, g ∣ m.2.natAbs) → (g : Int) * dot v (l.map fun m => (m.1, (sg * m.2).tdiv g)) = sg * dot v l
  | [], _ => by simp [dot]
  | m :: r, h => by
    have ih := dot_short v sg g hs r fun x hx => h x (List.mem_cons_of_mem _ hx)
    have hm := h m List.mem_cons_self
    have e : (sg * m.2).tdiv g * g = sg * m.2 := tdiv_mul_of _ _ (by
      have : (sg * m.2).natAbs = m.2.natAbs := by rcases hs with rfl | rfl <;> omega
      rw [this]; exact hm)
    simp only [List.map_cons, dot]
    rw [Int.mul_add, ih, ← Int.mul_assoc, Int.mul_comm (g : Int), e, Int.mul_add, Int.mul_assoc]
theorem up_ceil (c : Int) (g : Nat) (hg : 0 < g) : c ≤ (g : Int) * upF c g ∧ (g : Int) * upF c g < c + g := by
  have h1 := Int.mul_tdiv_add_tmod c g
  have h2 := Int.natAbs_tmod c g
  have h3 : (c.tmod g).natAbs < g := by rw [h2]; exact Nat.mod_lt _ hg
  have hp : 0 ≤ c → 0 ≤ c.tmod g := fun h => Int.tmod_nonneg g h
  unfold upF
  split
  · rename_i h
    rw [Int.mul_add]
    omega
  · rename_i h
    omega
theorem up_exact (c : Int) (g : Nat) (h : c.tmod g = 0) : (g : Int) * upF c g = c := by
  have h1 := Int.mul_tdiv_add_tmod c g
  unfold upF
  rw [if_neg (by omega)]
  omega
theorem up_le (c : Int) (g : Nat) (hg : 0 < g) : (upF c g).natAbs ≤ c.natAbs := by
  obtain ⟨h1, h2⟩ := up_ceil c g hg
  have e1 := Int.mul_tdiv_add_tmod c g
  have e2 : (c.tdiv (g : Int)).natAbs ≤ c.natAbs := by rw [Int.natAbs_tdiv]; exact Nat.div_le_self _ _
  unfold upF
  split
  · rename_i h
    have hc : 0 < c := by
      have : ¬ c ≤ 0 := fun z => by
        have := Int.tmod_nonneg (a := -c) g (by omega)
        rw [Int.neg_tmod] at this
        omega
      omega
    have hq : 0 ≤ c.tdiv g := Int.tdiv_nonneg (by omega) (by omega)
    have hgq : c.tdiv g ≤ (g : Int) * c.tdiv g := by
      have : (1 : Int) * c.tdiv g ≤ (g : Int) * c.tdiv g := Int.mul_le_mul_of_nonneg_right (by omega) hq
      omega
    omega
  · omega
theorem ord_map (sg : Int) (g : Nat) (hs : sg = 1 ∨ sg = -1) (hg : 0 < g) : ∀ (l : List (Int × Int)) (lo : Int), ord lo l → (∀ m ∈ l, g ∣ m.2.natAbs) → ord lo (l.map fun m => (m.1, (sg * m.2).tdiv g))
  | [], _, _, _ => trivial
  | m :: r, lo, ⟨a, b, c, d, e, f⟩, h => by
    have hm := h m List.mem_cons_self
    have habs : (sg * m.2).natAbs = m.2.natAbs := by rcases hs with rfl | rfl <;> omega
    have he : (sg * m.2).tdiv g * g = sg * m.2 := tdiv_mul_of _ _ (by rw [habs]; exact hm)
    have hl : ((sg * m.2).tdiv g).natAbs ≤ m.2.natAbs := by rw [Int.natAbs_tdiv, habs]; exact Nat.div_le_self _ _
    refine ⟨a, b, fun z => ?_, by dsimp only; omega, by dsimp only; omega, ord_map sg g hs hg r m.1 f fun x hx => h x (List.mem_cons_of_mem _ hx)⟩
    dsimp only at z
    rw [z] at he
    rcases hs with rfl | rfl <;> omega
theorem sg_cases (c : (Int × List (Int × Int)) × Bool) : sgF c = 1 ∨ sgF c = -1 := by unfold sgF; split <;> simp
theorem value_told {t : Int × List (Int × Int)} {v : List Int} (h : (valueF t v).2 = 0) : right t ∧ t.2.any (beyond_pred v) = false ∧ v.any (wide_pred ()) = false ∧ valueF t v = (t.1 + dot v t.2, 0) := by
  unfold valueF at h ⊢
  split
  · rename_i r
    rw [if_pos r] at h
    split
    · rename_i q; rw [if_pos q] at h; cases h
    · rename_i q
      rw [if_neg q] at h
      split
      · rename_i p; rw [if_pos p] at h; cases h
      · rename_i p
        exact ⟨r, by simpa using q, by simpa using p, by rw [valS_dot]⟩
  · rename_i r; rw [if_neg r] at h; cases h
theorem value_of {t : Int × List (Int × Int)} {v : List Int} (r : right t) (q : t.2.any (beyond_pred v) = false) (p : v.any (wide_pred ()) = false) : valueF t v = (t.1 + dot v t.2, 0) := by
  unfold valueF
  rw [if_pos r, if_neg (by simpa using q), if_neg (by simpa using p), valS_dot]
/-- what always holds, never, or holds as its short form does -/
theorem holds_short {c : (Int × List (Int × Int)) × Bool} {v : List Int} (h : (valueF c.1 v).2 = 0) :
    (holdsF c v).2 = 0 ∧ (oneF c).2.2 = 0 ∧ ((oneF c).2.1 = 2 → (holdsF c v).1 = true) ∧ ((oneF c).2.1 = 1 → (holdsF c v).1 = false) ∧ ((oneF c).2.1 = 0 → holdsF (oneF c).1 v = ((holdsF c v).1, 0)) ∧ ((oneF c).2.1 = 0 ∨ (oneF c).2.1 = 1 ∨ (oneF c).2.1 = 2) := by
  obtain ⟨r, q, p, e⟩ := value_told h
  have hh : holdsF c v = (decide (c.1.1 + dot v c.1.2 = 0 ∨ (c.1.1 + dot v c.1.2 < 0 ∧ c.2 = false)), 0) := by
    unfold holdsF; rw [e, if_pos rfl]
  obtain ⟨hc, hlen, ho⟩ := (right_iff _).1 r
  by_cases hn : c.1.2 = []
  · have e1 : oneF c = (((0, []), false), alwaysF c, 0) := by unfold oneF; rw [if_pos r, if_pos hn]
    have w0 : dot v c.1.2 = 0 := by rw [hn]; rfl
    rw [w0, Int.add_zero] at hh
    by_cases hz : c.1.1 = 0 ∨ (c.1.1 < 0 ∧ c.2 = false)
    · have ha : alwaysF c = 2 := if_pos hz
      rw [ha] at e1
      refine ⟨by rw [hh], by rw [e1], fun _ => by rw [hh]; exact decide_eq_true hz, fun z => ?_, fun z => ?_, .inr (.inr (by rw [e1]))⟩ <;> (rw [e1] at z; cases z)
    · have ha : alwaysF c = 1 := if_neg hz
      rw [ha] at e1
      refine ⟨by rw [hh], by rw [e1], fun z => ?_, fun _ => by rw [hh]; exact decide_eq_false hz, fun z => ?_, .inr (.inl (by rw [e1]))⟩ <;> (rw [e1] at z; cases z)
  obtain ⟨-, hg⟩ := gL_le c.1.2 0 (-1) ho (by omega)
  have hg := hg (.inr hn)
  have hdv := (gL_dvd c.1.2 0).2
  have hone : oneF c = if c.2 = true ∧ c.1.1.tmod (gL 0 c.1.2) ≠ 0 then (((0, []), false), 1, 0)
    else (((sgF c * upF c.1.1 (gL 0 c.1.2), c.1.2.map fun m => (m.1, (sgF c * m.2).tdiv (gL 0 c.1.2))), c.2), 0, 0) := by
    unfold oneF; rw [if_pos r, if_neg hn]
  revert hone hdv hg
  generalize gL 0 c.1.2 = g
  intro hg hdv hone
  have d1 := dot_short v 1 g (.inl rfl) c.1.2 hdv
  rw [Int.one_mul] at d1
  by_cases hz : c.2 = true ∧ c.1.1.tmod g ≠ 0
  · rw [if_pos hz] at hone
    refine ⟨by rw [hh], by rw [hone], fun z => (by rw [hone] at z; cases z), fun _ => ?_, fun z => (by rw [hone] at z; cases z), .inr (.inl (by rw [hone]))⟩
    rw [hh]
    refine decide_eq_false fun w => ?_
    rcases w with w | w
    · refine hz.2 (Int.tmod_eq_zero_of_dvd ⟨-(dot v (c.1.2.map fun m => (m.1, (1 * m.2).tdiv g))), ?_⟩)
      rw [Int.mul_neg, d1]; omega
    · rw [hz.1] at w; cases w.2
  · rw [if_neg hz] at hone
    have ds := dot_short v (sgF c) g (sg_cases c) c.1.2 hdv
    have hr2 : right (oneF c).1.1 := (right_iff _).2 (by
      rw [hone]
      refine ⟨?_, by simpa using hlen, ord_map (sgF c) g (sg_cases c) hg c.1.2 (-1) ho hdv⟩
      have := up_le c.1.1 g hg
      rcases sg_cases c with q2 | q2 <;> rw [q2] <;> dsimp only <;> omega)
    have hq2 : (oneF c).1.1.2.any (beyond_pred v) = false := by
      rw [hone]
      simp only [List.any_map]
      rw [List.any_eq_false] at q ⊢
      intro x hx
      exact q x hx
    have ev := value_of hr2 hq2 p
    have hs : holdsF (oneF c).1 v = (decide ((oneF c).1.1.1 + dot v (oneF c).1.1.2 = 0 ∨ ((oneF c).1.1.1 + dot v (oneF c).1.1.2 < 0 ∧ (oneF c).1.2 = false)), 0) := by
      unfold holdsF; rw [ev, if_pos rfl]
    refine ⟨by rw [hh], by rw [hone], fun z => (by rw [hone] at z; cases z), fun z => (by rw [hone] at z; cases z), fun _ => ?_, .inl (by rw [hone])⟩
    rw [hs, hh, hone]
    refine Prod.ext ?_ rfl
    dsimp only
    rw [decide_eq_decide]
    obtain ⟨u1, u2⟩ := up_ceil c.1.1 g hg
    cases hE : c.2 with
    | true =>
      have hx : c.1.1.tmod g = 0 := Classical.byContradiction fun w => hz ⟨hE, w⟩
      have ux := up_exact c.1.1 g hx
      simp only [Bool.true_eq_false, and_false, or_false]
      have key : (g : Int) * (sgF c * upF c.1.1 g + dot v (c.1.2.map fun m => (m.1, (sgF c * m.2).tdiv g))) = sgF c * (c.1.1 + dot v c.1.2) := by
        rw [Int.mul_add, ds, Int.mul_add, ← Int.mul_assoc, Int.mul_comm (g : Int) (sgF c), Int.mul_assoc, ux]
      constructor
      · intro w
        rw [w, Int.mul_zero] at key
        rcases sg_cases c with q2 | q2 <;> rw [q2] at key <;> omega
      · intro w
        rw [w, Int.mul_zero] at key
        rcases Int.mul_eq_zero.1 key with k | k
        · omega
        · exact k
    | false =>
      have hs1 : sgF c = 1 := by unfold sgF; rw [if_neg (by rw [hE]; simp)]
      rw [hs1, Int.one_mul] at ds ⊢
      simp only [and_true]
      revert ds
      generalize (dot v (c.1.2.map fun m => (m.1, (1 * m.2).tdiv g))) = D
      generalize dot v c.1.2 = S
      revert u1 u2
      generalize upF c.1.1 g = U
      generalize c.1.1 = C
      intro u1 u2 ds
      have hgp : (0 : Int) < g := by omega
      constructor
      · intro w
        have w : U + D ≤ 0 := by omega
        have : (g : Int) * (U + D) ≤ 0 := Int.mul_nonpos_of_nonneg_of_nonpos (by omega) w
        rw [Int.mul_add] at this
        omega
      · intro w
        have w : C + S ≤ 0 := by omega
        have : ¬ 1 ≤ U + D := fun z => by
          have : (g : Int) * 1 ≤ (g : Int) * (U + D) := Int.mul_le_mul_of_nonneg_left z (by omega)
          rw [Int.mul_add] at this
          omega
        omega
end Go.Proofs.Ytndndemnjmdanaa.Ax
