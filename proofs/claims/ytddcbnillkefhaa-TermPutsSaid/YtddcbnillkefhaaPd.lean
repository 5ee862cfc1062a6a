/- Layer term: values of sums, of multiples, of what is put. -/
import Derived.Test.YtddcbnillkefhaaPc
set_option linter.unusedVariables false
set_option linter.unusedSimpArgs false
namespace Go.Proofs.Ytddcbnillkefhaa.Ax
open Go Go.RowKit
def dot (v : List Int) : List (Int × Int) → Int
  | [] => 0
  | m :: r => m.2 * v.getD m.1.toNat 0 + dot v r
theorem valS_dot (v : List Int) : ∀ (l : List (Int × Int)) (c : Int), valS v c l = c + dot v l
  | [], c => by simp [valS, dot]
  | m :: r, c => by rw [valS, valS_dot v r, dot]; omega
theorem value_told {t : Int × List (Int × Int)} {v : List Int} (h : (valueF t v).2 = 0) : right t ∧ t.2.any (beyond_pred v) = false ∧ v.any (wide_pred ()) = false ∧ valueF t v = (t.1 + dot v t.2, 0) := by
  unfold valueF at h ⊢
  split
  · rename_i r
    rw [if_pos r] at h
    split
    · rename_i q; rw [if_pos q] at h; cases h
    · rename_i q
      rw [if_neg q] at h
      split
      · rename_i p; rw [if_pos p] at h; cases h
      · rename_i p
        exact ⟨r, by simpa using q, by simpa using p, by rw [valS_dot]⟩
  · rename_i r; rw [if_neg r] at h; cases h
theorem value_of {t : Int × List (Int × Int)} {v : List Int} (r : right t) (q : t.2.any (beyond_pred v) = false) (p : v.any (wide_pred ()) = false) : valueF t v = (t.1 + dot v t.2, 0) := by
  unfold valueF
  rw [if_pos r, if_neg (by simpa using q), if_neg (by simpa using p), valS_dot]
theorem dot_keep (v : List Int) (m : Int × Int) (r : List (Int × Int)) : dot v (keep m r) = m.2 * v.getD m.1.toNat 0 + dot v r := by
  unfold keep
  split
  · rename_i h; rw [h]; omega
  · rfl
theorem dot_mg (v : List Int) : ∀ (x y : List (Int × Int)) (lo : Int), ord lo x → ord lo y → dot v (mg x y) = dot v x + dot v y
  | [], [], lo, _, _ => by rw [mg]; rfl
  | a :: x, [], lo, hx, hy => by
    obtain ⟨x1, x2, x3, x4, x5, x6⟩ := hx
    rw [mg_l, dot_keep, dot_mg v x [] a.1 x6 trivial]
    simp only [dot]; omega
  | [], b :: y, lo, hx, hy => by
    obtain ⟨y1, y2, y3, y4, y5, y6⟩ := hy
    rw [mg_r, dot_keep, dot_mg v [] y b.1 trivial y6]
    simp only [dot]; omega
  | a :: x, b :: y, lo, hx, hy => by
    obtain ⟨x1, x2, x3, x4, x5, x6⟩ := hx
    obtain ⟨y1, y2, y3, y4, y5, y6⟩ := hy
    by_cases h1 : a.1 < b.1
    · rw [mg_lt x y (decide_eq_true h1), dot_keep, dot_mg v x (b :: y) a.1 x6 ⟨h1, y2, y3, y4, y5, y6⟩]
      simp only [dot]; omega
    · by_cases h2 : b.1 < a.1
      · rw [mg_gt x y (decide_eq_false h1) (decide_eq_true h2), dot_keep, dot_mg v (a :: x) y b.1 ⟨h2, x2, x3, x4, x5, x6⟩ y6]
        simp only [dot]; omega
      · have hab : a.1 = b.1 := by omega
        have hw : IntKind.i64.wrap (a.2 + b.2) = a.2 + b.2 := wrap_eq _ (by omega) (by omega)
        rw [mg_eq x y (decide_eq_false h1) (decide_eq_false h2), dot_keep, dot_mg v x y a.1 x6 (hab ▸ y6), hw]
        simp only [dot, hab, Int.add_mul]; omega
termination_by x y => x.length + y.length
theorem keep_any (p : Int × Int → Bool) (m : Int × Int) (r : List (Int × Int)) (hm : p m = false) (hr : r.any p = false) : (keep m r).any p = false := by
  unfold keep
  split
  · exact hr
  · rw [List.any_cons, hm, hr]; rfl
theorem mg_any (p : Int × Int → Bool) (hp : ∀ a k k', p (a, k) = p (a, k')) : ∀ (x y : List (Int × Int)), x.any p = false → y.any p = false → (mg x y).any p = false
  | [], [], _, _ => by rw [mg]; rfl
  | a :: x, [], hx, hy => by
    rw [List.any_cons, Bool.or_eq_false_iff] at hx
    rw [mg_l]; exact keep_any p _ _ hx.1 (mg_any p hp x [] hx.2 rfl)
  | [], b :: y, hx, hy => by
    rw [List.any_cons, Bool.or_eq_false_iff] at hy
    rw [mg_r]; exact keep_any p _ _ hy.1 (mg_any p hp [] y rfl hy.2)
  | a :: x, b :: y, hx, hy => by
    have hx0 := hx
    have hy0 := hy
    rw [List.any_cons, Bool.or_eq_false_iff] at hx hy
    by_cases h1 : a.1 < b.1
    · rw [mg_lt x y (decide_eq_true h1)]; exact keep_any p _ _ hx.1 (mg_any p hp x (b :: y) hx.2 hy0)
    · by_cases h2 : b.1 < a.1
      · rw [mg_gt x y (decide_eq_false h1) (decide_eq_true h2)]; exact keep_any p _ _ hy.1 (mg_any p hp (a :: x) y hx0 hy.2)
      · rw [mg_eq x y (decide_eq_false h1) (decide_eq_false h2)]; exact keep_any p _ _ (by rw [hp a.1 _ a.2]; exact hx.1) (mg_any p hp x y hx.2 hy.2)
termination_by x y => x.length + y.length
theorem dot_scL (v : List Int) (k : Int) : ∀ (l : List (Int × Int)), (scL k l).2 = true → dot v (scL k l).1 = k * dot v l
  | [], _ => by simp [scL, dot]
  | m :: r, h => by
    rw [scL] at h
    have h := Bool.and_eq_true_iff.1 h
    have t := (times_ok m.2 k 1048576 (by omega) (by omega) h.1).1
    rw [scL, dot_keep, dot_scL v k r h.2]
    dsimp only
    rw [t, dot, Int.mul_add, Int.mul_comm m.2 k, Int.mul_assoc]
theorem scL_any (p : Int × Int → Bool) (hp : ∀ a k k', p (a, k) = p (a, k')) (k : Int) : ∀ (l : List (Int × Int)), l.any p = false → (scL k l).1.any p = false
  | [], _ => rfl
  | m :: r, h => by
    rw [List.any_cons, Bool.or_eq_false_iff] at h
    rw [scL]; exact keep_any p _ _ (by rw [hp m.1 _ m.2]; exact h.1) (scL_any p hp k r h.2)
def okT (v : List Int) (t : Int × List (Int × Int)) : Prop := right t ∧ t.2.any (beyond_pred v) = false
def valT (v : List Int) (t : Int × List (Int × Int)) : Int := t.1 + dot v t.2
theorem add_val {v : List Int} {a b : Int × List (Int × Int)} (h : (addF a b).2 = 0) (ha : okT v a) (hb : okT v b) : okT v (addF a b).1 ∧ valT v (addF a b).1 = valT v a + valT v b := by
  obtain ⟨h1, h2, h3, h4⟩ := add_ok h
  obtain ⟨a1, -, a3⟩ := (right_iff a).1 h1
  obtain ⟨b1, -, b3⟩ := (right_iff b).1 h2
  have hw : IntKind.i64.wrap (a.1 + b.1) = a.1 + b.1 := wrap_eq _ (by omega) (by omega)
  refine ⟨⟨h4 ▸ h3, ?_⟩, ?_⟩
  · rw [h4]; exact mg_any _ (fun _ _ _ => rfl) _ _ ha.2 hb.2
  · rw [h4]
    unfold valT sumF
    dsimp only
    rw [hw, dot_mg v a.2 b.2 (-1) a3 b3]; omega
theorem scale_val {v : List Int} {t : Int × List (Int × Int)} {k : Int} (h : (scaleF t k).2 = 0) (ht : okT v t) (hr : right (scaleF t k).1) : okT v (scaleF t k).1 ∧ valT v (scaleF t k).1 = k * valT v t := by
  obtain ⟨h1, h2, h3, h4⟩ := scale_ok h
  refine ⟨⟨hr, ?_⟩, ?_⟩
  · rw [h4]; exact scL_any _ (fun _ _ _ => rfl) _ _ ht.2
  · rw [h4]
    unfold valT
    dsimp only
    rw [dot_scL v k t.2 h3, (times_ok t.1 k _ (by omega) (by omega) h2).1, Int.mul_add, Int.mul_comm]
theorem dot_bound {v : List Int} (hv : v.any (wide_pred ()) = false) : ∀ (l : List (Int × Int)) (lo : Int), -1 ≤ lo → ord lo l → l.any (beyond_pred v) = false → (dot v l).natAbs ≤ l.length * 2251799813685248
  | [], _, _, _, _ => by simp [dot]
  | m :: r, lo, h0, h, hb => by
    obtain ⟨h1, h2, h3, h4, h5, h6⟩ := h
    rw [List.any_cons, Bool.or_eq_false_iff] at hb
    have hm : m.1 < (v.length : Int) := by simpa [beyond_pred] using hb.1
    have hw : -2147483648 ≤ v.getD m.1.toNat 0 ∧ v.getD m.1.toNat 0 ≤ 2147483647 := by
      have := List.any_eq_false.1 hv (v.getD m.1.toNat 0) (getD_mem v _ 0 (by omega))
      simpa [wide_pred] using this
    have hp := mulB m.2 (v.getD m.1.toNat 0) ⟨h4, h5⟩ hw
    have ih := dot_bound hv r m.1 (by omega) h6 hb.2
    rw [dot, List.length_cons]
    omega
theorem valT_bound {v : List Int} {t : Int × List (Int × Int)} (ht : okT v t) (hv : v.any (wide_pred ()) = false) : -100000000000000000 ≤ valT v t ∧ valT v t ≤ 100000000000000000 := by
  obtain ⟨h1, h2, h3⟩ := (right_iff t).1 ht.1
  have := dot_bound hv t.2 (-1) (Int.le_refl _) h3 ht.2
  unfold valT
  omega
theorem dot_dl (vs : List Int) (v : Int) : ∀ (l : List (Int × Int)) (lo : Int), ord lo l → dot vs (dlF v l) = dot vs l - kF l v * vs.getD v.toNat 0
  | [], _, _ => by simp [dlF, dot, kF]
  | m :: r, lo, h => by
    obtain ⟨h1, h2, h3, h4, h5, h6⟩ := h
    have ih := dot_dl vs v r m.1 h6
    unfold dlF at ih ⊢
    by_cases e : m.1 = v
    · rw [List.filter_cons_of_neg (by simp [put_pred, e]), ih, dot, kF, if_pos e, kF_low r m.1 v h6 (by omega), e]; omega
    · rw [List.filter_cons_of_pos (by simp [put_pred, e]), dot, ih, dot, kF, if_neg e]; omega
theorem put_val {vs : List Int} {a b : Int × List (Int × Int)} {v : Int} (h : (putF a v b).2 = 0) (ha : okT vs a) (hb : okT vs b) : okT vs (putF a v b).1 ∧ valT vs (putF a v b).1 = valT vs a + kF a.2 v * (valT vs b - vs.getD v.toNat 0) := by
  unfold putF at h ⊢
  rw [if_pos ⟨ha.1, hb.1⟩] at h ⊢
  split at h
  · rename_i c
    rw [if_pos c]
    have h0 := add_ok h
    obtain ⟨s1, s2⟩ := scale_val c hb h0.2.1
    have hd : okT vs (a.1, dlF v a.2) := ⟨h0.1, by
      have := ha.2
      rw [List.any_eq_false] at this ⊢
      exact fun x hx => this x (List.mem_filter.1 hx).1⟩
    obtain ⟨r1, r2⟩ := add_val h hd s1
    refine ⟨r1, ?_⟩
    have o := ((right_iff a).1 ha.1).2.2
    rw [r2, s2, show valT vs (a.1, dlF v a.2) = a.1 + dot vs (dlF v a.2) from rfl, dot_dl vs v a.2 _ o, Int.mul_sub, show valT vs a = a.1 + dot vs a.2 from rfl]
    omega
  · rename_i c; exact absurd h c
theorem of_decide_lt {i n : Nat} (h : decide ((i : Int) < (n : Int)) = true) : i < n := by have := of_decide_eq_true h; omega
theorem of_decide_ge {i n : Nat} (h : decide ((i : Int) < (n : Int)) = false) (h2 : i ≤ n) : i = n := by have := of_decide_eq_false h; omega
def ref_Told : Ctr := { A := (Int × List (Int × Int)) × List Int, enc := fun x => [termS x.1, ints x.2], dom := fun x => x.2.length ≤ 4611686018427387904, res := fun x _ => I (valueF x.1 x.2).2 }
set_option maxRecDepth 100000 in
set_option maxHeartbeats 4000000 in
theorem ref_Told_ok : CtrSound Try.prog 17 ref_Told :=
  ctr_of_ax (env_ok tys_ok (eqs := []) trivial (cs := [(15, ref_Right), (25, ref_in)]) ⟨ref_Right_ok, ref_in_ok, trivial⟩) mixed _ Try.func17 (by kernel_rfl) rfl (fun _ _ => Nat.le_of_ble_eq_true rfl) fun (((c, l), v) : (Int × List (Int × Int)) × List Int) id hd => by
    have hd : v.length ≤ 4611686018427387904 := hd
    have t1 : ¬ right (c, l) → (valueF (c, l) v).2 = 1 := fun r => by unfold valueF; rw [if_neg r]
    have t2 : right (c, l) → l.any (beyond_pred v) = true → (valueF (c, l) v).2 = 5 := fun r h => by unfold valueF; rw [if_pos r, if_pos h]
    have t3 : right (c, l) → l.any (beyond_pred v) = false → v.any (wide_pred ()) = true → (valueF (c, l) v).2 = 1 := fun r h h2 => by unfold valueF; rw [if_pos r, if_neg (by simpa using h), if_pos h2]
    have t4 : right (c, l) → l.any (beyond_pred v) = false → v.any (wide_pred ()) = false → (valueF (c, l) v).2 = 0 := fun r h h2 => by unfold valueF; rw [if_pos r, if_neg (by simpa using h), if_neg (by simpa using h2)]
    refine ⟨(c, l), ⟨.refl _, trivial⟩, rfl, trivial, fun h1 => ?_, fun h1 => ?_⟩
    · exact ⟨.int (t1 (of_decide_eq_false (ynot h1))).symm, rfl⟩
    have hr : right (c, l) := of_decide_eq_true (nnot h1)
    have hlen : l.length ≤ 40 := hr.2.2.1
    refine ⟨Nat, fun i => [(1, ints v), (2, .box 2 0), (5, I i)], fun _ => [(2, [I c, monos l])], fun i => i ≤ l.length ∧ (l.drop i).any (beyond_pred v) = l.any (beyond_pred v), fun i => l.length - i, ⟨0, ⟨Nat.zero_le _, rfl⟩, ⟨⟨rfl, rfl⟩, .refl _, .refl _, .refl _, ⟨.refl _, .refl _, trivial⟩, trivial⟩⟩, fun (i : Nat) hi => ?_⟩
    have hil : i ≤ l.length := hi.1
    have hk : (l.drop i).any (beyond_pred v) = l.any (beyond_pred v) := hi.2
    have hwj : IntKind.i64.wrap ((i : Int) + 1) = ((i + 1 : Nat) : Int) := by rw [wrap_eq _ (by omega) (by omega)]; omega
    refine ⟨fun h => ?_, fun h => ?_⟩
    · have hlt : i < l.length := of_decide_lt h
      rw [drop_at (0, 0) l i hlt, List.any_cons] at hk
      refine ⟨⟨by omega, by omega⟩, fun h2 => ?_, fun h2 => ?_⟩
      · have h2 : beyond_pred v (l.getD i (0, 0)) = true := h2
        rw [h2, Bool.true_or] at hk
        exact ⟨.int (t2 hr hk.symm).symm, rfl⟩
      · have h2 : beyond_pred v (l.getD i (0, 0)) = false := h2
        rw [h2, Bool.false_or] at hk
        exact ⟨i + 1, ⟨hlt, hk⟩, by show l.length - (i + 1) < l.length - i; omega, ⟨rfl, rfl⟩, .refl _, .int hwj, .refl _, ⟨.refl _, .refl _, trivial⟩, trivial⟩
    have hge : i = l.length := of_decide_ge h hil
    subst hge
    rw [List.drop_length, List.any_nil] at hk
    have hb := hk.symm
    refine ⟨Nat, fun i => [(1, ints v), (6, I i)], fun _ => [], fun i => i ≤ v.length ∧ (v.drop i).any (wide_pred ()) = v.any (wide_pred ()), fun i => v.length - i, ⟨0, ⟨Nat.zero_le _, rfl⟩, ⟨⟨rfl, rfl⟩, .refl _, .refl _, trivial⟩⟩, fun (i : Nat) hi => ?_⟩
    have hil2 : i ≤ v.length := hi.1
    have hk2 : (v.drop i).any (wide_pred ()) = v.any (wide_pred ()) := hi.2
    have hwj2 : IntKind.i64.wrap ((i : Int) + 1) = ((i + 1 : Nat) : Int) := by rw [wrap_eq _ (by omega) (by omega)]; omega
    refine ⟨fun h => ?_, fun h => ?_⟩
    · have hlt : i < v.length := of_decide_lt h
      rw [drop_at 0 v i hlt, List.any_cons] at hk2
      have hw : wide_pred () (v.getD i 0) = !decide (-2147483648 ≤ v.getD i 0 ∧ v.getD i 0 ≤ 2147483647) := by
        unfold wide_pred
        generalize v.getD i 0 = x
        by_cases a1 : x < -2147483648 <;> by_cases a2 : x > 2147483647 <;> simp [a1, a2] <;> omega
      refine ⟨⟨by omega, by omega⟩, ?_⟩
      refine ⟨(v.getD i 0, -2147483648, 2147483647), ⟨.refl _, .refl _, .refl _, trivial⟩, rfl, trivial, fun h2 => ?_, fun h2 => ?_⟩
      · have h2 : (!decide (-2147483648 ≤ v.getD i 0 ∧ v.getD i 0 ≤ 2147483647)) = true := h2
        rw [hw, h2, Bool.true_or] at hk2
        exact ⟨.int (t3 hr hb hk2.symm).symm, rfl⟩
      · have h2 : (!decide (-2147483648 ≤ v.getD i 0 ∧ v.getD i 0 ≤ 2147483647)) = false := h2
        rw [hw, h2, Bool.false_or] at hk2
        exact ⟨i + 1, ⟨hlt, hk2⟩, by show v.length - (i + 1) < v.length - i; omega, ⟨rfl, rfl⟩, .refl _, .int hwj2, trivial⟩
    · have hge : i = v.length := of_decide_ge h hil2
      subst hge
      rw [List.drop_length, List.any_nil] at hk2
      exact ⟨.int (t4 hr hb hk2.symm).symm, rfl⟩
end Go.Proofs.Ytddcbnillkefhaa.Ax
