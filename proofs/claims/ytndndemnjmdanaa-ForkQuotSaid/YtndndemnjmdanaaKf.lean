/- Layer fork: sums hold as their values say; which ways hold. -/
import Derived.Test.YtndndemnjmdanaaKe
import Derived.Test.YtndndemnjmdanaaNp
set_option linter.unusedVariables false
set_option linter.unusedSimpArgs false
namespace Go.Proofs.Ytndndemnjmdanaa.Ax
open Go Go.RowKit
theorem dot_keep (v : List Int) (m : Int × Int) (r : List (Int × Int)) : dot v (keep m r) = m.2 * v.getD m.1.toNat 0 + dot v r := by
  unfold keep
  split
  · rename_i h; rw [h]; omega
  · rfl
theorem dot_mg (v : List Int) : ∀ (x y : List (Int × Int)) (lo : Int), ord lo x → ord lo y → dot v (mg x y) = dot v x + dot v y
  | [], [], lo, _, _ => by rw [mg]; rfl
  | a :: x, [], lo, hx, hy => by
    obtain ⟨x1, x2, x3, x4, x5, x6⟩ := hx
    rw [mg_l, dot_keep, dot_mg v x [] a.1 x6 trivial]
    simp only [dot]; omega
  | [], b :: y, lo, hx, hy => by
    obtain ⟨y1, y2, y3, y4, y5, y6⟩ := hy
    rw [mg_r, dot_keep, dot_mg v [] y b.1 trivial y6]
    simp only [dot]; omega
  | a :: x, b :: y, lo, hx, hy => by
    obtain ⟨x1, x2, x3, x4, x5, x6⟩ := hx
    obtain ⟨y1, y2, y3, y4, y5, y6⟩ := hy
    by_cases h1 : a.1 < b.1
    · rw [mg_lt x y (decide_eq_true h1), dot_keep, dot_mg v x (b :: y) a.1 x6 ⟨h1, y2, y3, y4, y5, y6⟩]
      simp only [dot]; omega
    · by_cases h2 : b.1 < a.1
      · rw [mg_gt x y (decide_eq_false h1) (decide_eq_true h2), dot_keep, dot_mg v (a :: x) y b.1 ⟨h2, x2, x3, x4, x5, x6⟩ y6]
        simp only [dot]; omega
      · have hab : a.1 = b.1 := by omega
        have hw : IntKind.i64.wrap (a.2 + b.2) = a.2 + b.2 := wrap_eq _ (by omega) (by omega)
        rw [mg_eq x y (decide_eq_false h1) (decide_eq_false h2), dot_keep, dot_mg v x y a.1 x6 (hab ▸ y6), hw]
        simp only [dot, hab, Int.add_mul]; omega
termination_by x y => x.length + y.length
theorem keep_any (p : Int × Int → Bool) (m : Int × Int) (r : List (Int × Int)) (hm : p m = false) (hr : r.any p = false) : (keep m r).any p = false := by
  unfold keep
  split
  · exact hr
  · rw [List.any_cons, hm, hr]; rfl
theorem mg_any (p : Int × Int → Bool) (hp : ∀ a k k', p (a, k) = p (a, k')) : ∀ (x y : List (Int × Int)), x.any p = false → y.any p = false → (mg x y).any p = false
  | [], [], _, _ => by rw [mg]; rfl
  | a :: x, [], hx, hy => by
    rw [List.any_cons, Bool.or_eq_false_iff] at hx
    rw [mg_l]; exact keep_any p _ _ hx.1 (mg_any p hp x [] hx.2 rfl)
  | [], b :: y, hx, hy => by
    rw [List.any_cons, Bool.or_eq_false_iff] at hy
    rw [mg_r]; exact keep_any p _ _ hy.1 (mg_any p hp [] y rfl hy.2)
  | a :: x, b :: y, hx, hy => by
    have hx0 := hx
    have hy0 := hy
    rw [List.any_cons, Bool.or_eq_false_iff] at hx hy
    by_cases h1 : a.1 < b.1
    · rw [mg_lt x y (decide_eq_true h1)]; exact keep_any p _ _ hx.1 (mg_any p hp x (b :: y) hx.2 hy0)
    · by_cases h2 : b.1 < a.1
      · rw [mg_gt x y (decide_eq_false h1) (decide_eq_true h2)]; exact keep_any p _ _ hy.1 (mg_any p hp (a :: x) y hx0 hy.2)
      · rw [mg_eq x y (decide_eq_false h1) (decide_eq_false h2)]; exact keep_any p _ _ (by rw [hp a.1 _ a.2]; exact hx.1) (mg_any p hp x y hx.2 hy.2)
termination_by x y => x.length + y.length
theorem dot_scL (v : List Int) (k : Int) : ∀ (l : List (Int × Int)), (scL k l).2 = true → dot v (scL k l).1 = k * dot v l
  | [], _ => by simp [scL, dot]
  | m :: r, h => by
    rw [scL] at h
    have h := Bool.and_eq_true_iff.1 h
    have t := (times_ok m.2 k 1048576 (by omega) (by omega) h.1).1
    rw [scL, dot_keep, dot_scL v k r h.2]
    dsimp only
    rw [t, dot, Int.mul_add, Int.mul_comm m.2 k, Int.mul_assoc]
theorem scL_any (p : Int × Int → Bool) (hp : ∀ a k k', p (a, k) = p (a, k')) (k : Int) : ∀ (l : List (Int × Int)), l.any p = false → (scL k l).1.any p = false
  | [], _ => rfl
  | m :: r, h => by
    rw [List.any_cons, Bool.or_eq_false_iff] at h
    rw [scL]; exact keep_any p _ _ (by rw [hp m.1 _ m.2]; exact h.1) (scL_any p hp k r h.2)
def okT (v : List Int) (t : Int × List (Int × Int)) : Prop := right t ∧ t.2.any (beyond_pred v) = false
def valT (v : List Int) (t : Int × List (Int × Int)) : Int := t.1 + dot v t.2
theorem const_ok {n : Int} (h : (constF n).2 = 0) : okC n = true ∧ constF n = ((n, []), 0) := by
  unfold constF at h ⊢
  split at h
  · rename_i c; rw [if_pos c]; exact ⟨c, rfl⟩
  · simp at h
theorem add_val {v : List Int} {a b : Int × List (Int × Int)} (h : (addF a b).2 = 0) (ha : okT v a) (hb : okT v b) : okT v (addF a b).1 ∧ valT v (addF a b).1 = valT v a + valT v b := by
  obtain ⟨h1, h2, h3, h4⟩ := add_ok h
  obtain ⟨a1, -, a3⟩ := (right_iff a).1 h1
  obtain ⟨b1, -, b3⟩ := (right_iff b).1 h2
  have hw : IntKind.i64.wrap (a.1 + b.1) = a.1 + b.1 := wrap_eq _ (by omega) (by omega)
  refine ⟨⟨h4 ▸ h3, ?_⟩, ?_⟩
  · rw [h4]; exact mg_any _ (fun _ _ _ => rfl) _ _ ha.2 hb.2
  · rw [h4]
    unfold valT sumF
    dsimp only
    rw [hw, dot_mg v a.2 b.2 (-1) a3 b3]; omega
theorem scale_val {v : List Int} {t : Int × List (Int × Int)} {k : Int} (h : (scaleF t k).2 = 0) (ht : okT v t) (hr : right (scaleF t k).1) : okT v (scaleF t k).1 ∧ valT v (scaleF t k).1 = k * valT v t := by
  obtain ⟨h1, h2, h3, h4⟩ := scale_ok h
  refine ⟨⟨hr, ?_⟩, ?_⟩
  · rw [h4]; exact scL_any _ (fun _ _ _ => rfl) _ _ ht.2
  · rw [h4]
    unfold valT
    dsimp only
    rw [dot_scL v k t.2 h3, (times_ok t.1 k _ (by omega) (by omega) h2).1, Int.mul_add, Int.mul_comm]
theorem sum3_val {v : List Int} {t : Int × List (Int × Int)} {k n : Int} (h : sumOk t k n = true) (ht : okT v t) : okT v (sum3 t k n).1 ∧ valT v (sum3 t k n).1 = k * valT v t + n := by
  unfold sumOk at h
  simp only [Bool.and_eq_true, beq_iff_eq] at h
  obtain ⟨h1, h2, h3⟩ := h
  obtain ⟨c1, c2⟩ := const_ok h2
  have ha := add_ok (show (addF (scaleF t k).1 (constF n).1).2 = 0 from h3)
  obtain ⟨s1, s2⟩ := scale_val h1 ht ha.1
  have hc : okT v (constF n).1 := ⟨ha.2.1, by rw [c2]; rfl⟩
  obtain ⟨r1, r2⟩ := add_val (v := v) (show (addF (scaleF t k).1 (constF n).1).2 = 0 from h3) s1 hc
  refine ⟨r1, ?_⟩
  show valT v (addF (scaleF t k).1 (constF n).1).1 = _
  rw [r2, s2, c2]
  simp [valT, dot]
theorem holds_val {v : List Int} {t : Int × List (Int × Int)} (e : Bool) (ht : okT v t) (hv : v.any (wide_pred ()) = false) : holdsF (t, e) v = (decide (valT v t = 0 ∨ (valT v t < 0 ∧ e = false)), 0) := by
  have h := value_of ht.1 ht.2 hv
  unfold holdsF
  simp only [h]
  rfl
def wayH (v : List Int) (w : List ((Int × List (Int × Int)) × Bool)) : Bool := w.all fun c => (holdsF c v).2 == 0 && (holdsF c v).1
def whF (v : List Int) : List (List ((Int × List (Int × Int)) × Bool)) → Nat → Int → Int
  | [], _, a => a
  | w :: r, i, a => if wayH v w then if a ≥ 0 then -2 else whF v r (i + 1) i else whF v r (i + 1) a
theorem whF_none (v : List Int) : ∀ (l : List (List ((Int × List (Int × Int)) × Bool))) (i : Nat) (a : Int), (∀ j, j < l.length → wayH v (l.getD j []) = false) → whF v l i a = a
  | [], i, a, _ => rfl
  | w :: r, i, a, h => by
    rw [whF, show wayH v w = false from h 0 (by simp), if_neg Bool.false_ne_true]
    exact whF_none v r (i + 1) a fun j hj => h (j + 1) (by simpa using hj)
theorem whF_one (v : List Int) : ∀ (l : List (List ((Int × List (Int × Int)) × Bool))) (i p : Nat), p < l.length → (∀ j, j < l.length → wayH v (l.getD j []) = decide (j = p)) → whF v l i (-1) = ((i + p : Nat) : Int)
  | [], i, p, hp, _ => by simp at hp
  | w :: r, i, 0, hp, h => by
    rw [whF, show wayH v w = true from h 0 (by simp), if_pos rfl, if_neg (by omega)]
    rw [whF_none v r (i + 1) i fun j hj => (h (j + 1) (by simpa using hj)).trans (decide_eq_false (by omega))]; rfl
  | w :: r, i, p + 1, hp, h => by
    rw [whF, show wayH v w = false from (h 0 (by simp)).trans (decide_eq_false (by omega)), if_neg Bool.false_ne_true]
    rw [whF_one v r (i + 1) p (by simpa using hp) fun j hj => (h (j + 1) (by simpa using hj)).trans (by simp)]
    omega
def f_which : Ctr := { A := List (List ((Int × List (Int × Int)) × Bool)) × List Int, enc := fun x => [waysR x.1, ints x.2], dom := fun x => x.1.length ≤ 1000000 ∧ (∀ w ∈ x.1, w.length ≤ 1000000) ∧ x.2.length ≤ 4611686018427387904, res := fun x _ => I (whF x.2 x.1 0 (-1)) }
set_option maxRecDepth 100000 in
set_option maxHeartbeats 4000000 in
theorem f_which_ok : CtrSound Try.prog 18 f_which :=
  ctr_of_ax (env_ok tys_ok (eqs := []) trivial (cs := [(40, norm_Holds)]) ⟨norm_Holds_ok, trivial⟩) mixed _ Try.func18 (by kernel_rfl) rfl (fun _ _ => Nat.le_of_ble_eq_true rfl) fun ((l, v) : List (List ((Int × List (Int × Int)) × Bool)) × List Int) id hd => by
    have hd1 : l.length ≤ 1000000 := hd.1
    have hd2 : ∀ w ∈ l, w.length ≤ 1000000 := hd.2.1
    have hd3 : v.length ≤ 4611686018427387904 := hd.2.2
    refine ⟨Nat × Int, fun s => [(0, waysR l), (1, ints v), (5, I s.2), (6, I s.1)], fun _ => [], fun s => s.1 ≤ l.length ∧ whF v (l.drop s.1) s.1 s.2 = whF v l 0 (-1), fun s => l.length - s.1, ⟨(0, -1), ⟨Nat.zero_le _, rfl⟩, ⟨⟨rfl, rfl⟩, .refl _, .refl _, .refl _, .refl _, trivial⟩⟩, fun ((i, a) : Nat × Int) hi => ?_⟩
    have hil : i ≤ l.length := hi.1
    have hk : whF v (l.drop i) i a = whF v l 0 (-1) := hi.2
    have hwj : IntKind.i64.wrap ((i : Int) + 1) = ((i + 1 : Nat) : Int) := by rw [wrap_eq _ (by omega) (by omega)]; omega
    refine ⟨fun h => ?_, fun h => ?_⟩
    · have hlt : i < l.length := by have := of_decide_eq_true h; omega
      have hlen := hd2 _ (getD_mem l i [] hlt)
      rw [drop_at [] l i hlt, whF] at hk
      refine ⟨Nat × Bool, fun s => [(0, waysR l), (1, ints v), (5, I a), (6, I i), (7, B s.2), (8, I s.1)], fun _ => [], fun s => s.1 ≤ (l.getD i []).length ∧ (s.2 && wayH v ((l.getD i []).drop s.1)) = wayH v (l.getD i []), fun s => (l.getD i []).length - s.1,
        ⟨(0, true), ⟨Nat.zero_le _, rfl⟩, ⟨⟨rfl, rfl⟩, .refl _, .refl _, .btt rfl, .refl _, .refl _, .refl _, trivial⟩⟩, fun ((k, b) : Nat × Bool) hj => ?_⟩
      have hkl : k ≤ (l.getD i []).length := hj.1
      have hkb : (b && wayH v ((l.getD i []).drop k)) = wayH v (l.getD i []) := hj.2
      have hwk : IntKind.i64.wrap ((k : Int) + 1) = ((k + 1 : Nat) : Int) := by rw [wrap_eq _ (by omega) (by omega)]; omega
      refine ⟨⟨by omega, by omega⟩, ?_⟩
      refine ⟨fun h => ?_, fun h => ?_⟩
      · have hlt2 : k < (l.getD i []).length := by have := of_decide_eq_true h; dsimp only [Int.toNat_natCast] at this; omega
        have hcons : wayH v ((l.getD i []).drop k) = (((holdsF ((l.getD i []).getD k ((0, []), false)) v).2 == 0 && (holdsF ((l.getD i []).getD k ((0, []), false)) v).1) && wayH v ((l.getD i []).drop (k + 1))) := by
          rw [drop_at ((0, []), false) _ k hlt2]; rfl
        rw [hcons] at hkb
        have next : ∀ c : Bool, (b && ((holdsF ((l.getD i []).getD k ((0, []), false)) v).2 == 0 && (holdsF ((l.getD i []).getD k ((0, []), false)) v).1)) = c → (c && wayH v ((l.getD i []).drop (k + 1))) = wayH v (l.getD i []) := fun c hc => by rw [← hc, ← hkb, Bool.and_assoc]
        refine ⟨⟨by omega, by omega⟩, ?_⟩
        refine ⟨⟨by omega, (by show (k : Int) < ((l.getD i []).length : Int); omega)⟩, ?_⟩
        refine ⟨((l.getD i []).getD k ((0, []), false), v), ⟨.refl _, .refl _, trivial⟩, rfl, hd3, ?_⟩
        cases b
        · refine ⟨?_, ?_⟩
          · skip
            intro h -- (k, false).snd = true
            (exact Bool.noConfusion h)
          · skip
            intro h -- (k, false).snd = false
            exact ⟨(k + 1, false), ⟨hlt2, next false rfl⟩, (by show (l.getD i []).length - (k + 1) < (l.getD i []).length - k; omega), ⟨rfl, rfl⟩, .refl _, .refl _, .bff rfl, .refl _, .int hwk, .refl _, trivial⟩
        · refine ⟨?_, ?_⟩
          · skip
            intro h -- (k, true).snd = true
            dsimp only at h
            refine ⟨?_, ?_⟩
            · skip
              intro h -- ((holdsF ((l.getD i []).getD k ((0, []), false), v).fst ((l.getD i []).getD k ((0, []), false), v).snd).snd == 0) = true
              dsimp only at h
              exact ⟨(k + 1, (holdsF ((l.getD i []).getD k ((0, []), false)) v).1), ⟨hlt2, next _ (by rw [h]; simp)⟩, (by show (l.getD i []).length - (k + 1) < (l.getD i []).length - k; omega), ⟨rfl, rfl⟩, .refl _, .refl _, .refl _, .refl _, .int hwk, .refl _, trivial⟩
            · skip
              intro h -- ((holdsF ((l.getD i []).getD k ((0, []), false), v).fst ((l.getD i []).getD k ((0, []), false), v).snd).snd == 0) = false
              dsimp only at h
              exact ⟨(k + 1, false), ⟨hlt2, next false (by rw [h]; simp)⟩, (by show (l.getD i []).length - (k + 1) < (l.getD i []).length - k; omega), ⟨rfl, rfl⟩, .refl _, .refl _, .bff rfl, .refl _, .int hwk, .refl _, trivial⟩
          · skip
            intro h -- (k, true).snd = false
            dsimp only at h
            (exact Bool.noConfusion h)
      · have hge : k = (l.getD i []).length := by have := of_decide_eq_false h; dsimp only [Int.toNat_natCast] at this; omega
        rw [hge, List.drop_length] at hkb
        have hb : b = wayH v (l.getD i []) := by rw [← hkb]; cases b <;> rfl
        rw [← hb] at hk
        cases b
        · rw [if_neg Bool.false_ne_true] at hk
          refine ⟨?_, ?_⟩
          · skip
            intro h -- (k, false).snd = true
            dsimp only at h
            (exact Bool.noConfusion h)
          · skip
            intro h -- (k, false).snd = false
            dsimp only at h
            refine ⟨?_, ?_⟩
            · skip
              intro h -- (k, false).snd = true
              dsimp only at h
              (exact Bool.noConfusion h)
            · skip
              intro h -- (k, false).snd = false
              dsimp only at h
              exact ⟨(i + 1, a), ⟨hlt, hk⟩, (by show l.length - (i + 1) < l.length - i; omega), ⟨rfl, rfl⟩, .refl _, .refl _, .refl _, .int hwj, trivial⟩
        · rw [if_pos rfl] at hk
          have k1 : decide (a ≥ 0) = true → whF v l 0 (-1) = -2 := fun h => by rw [if_pos (of_decide_eq_true h)] at hk; exact hk.symm
          have k2 : decide (a ≥ 0) = false → whF v (l.drop (i + 1)) (i + 1) i = whF v l 0 (-1) := fun h => by rw [if_neg (of_decide_eq_false h)] at hk; exact hk
          refine ⟨?_, ?_⟩
          · skip
            intro h -- (k, true).snd = true
            dsimp only at h
            refine ⟨?_, ?_⟩
            · skip
              intro h -- decide (a ≥ 0) = true
              exact ⟨.int (k1 h).symm, rfl⟩
            · skip
              intro h -- decide (a ≥ 0) = false
              refine ⟨?_, ?_⟩
              · skip
                intro h -- (k, true).snd = true
                dsimp only at h
                exact ⟨(i + 1, (i : Int)), ⟨hlt, k2 ‹decide (a ≥ 0) = false›⟩, (by show l.length - (i + 1) < l.length - i; omega), ⟨rfl, rfl⟩, .refl _, .refl _, .refl _, .int hwj, trivial⟩
              · skip
                intro h -- (k, true).snd = false
                dsimp only at h
                (exact Bool.noConfusion h)
          · skip
            intro h -- (k, true).snd = false
            dsimp only at h
            (exact Bool.noConfusion h)
    · have hge : i = l.length := by have := of_decide_eq_false h; omega
      rw [hge, List.drop_length, whF] at hk
      exact ⟨.int hk, rfl⟩
end Go.Proofs.Ytndndemnjmdanaa.Ax
