/- Layer fork: just one way holds; ForkParts. -/
import Derived.Test.YtndndemnjmdanaaKf
set_option linter.unusedVariables false
set_option linter.unusedSimpArgs false
namespace Go.Proofs.Ytndndemnjmdanaa.Ax
open Go Go.RowKit
variable {v : List Int} {t : Int × List (Int × Int)}
theorem mc_way (ht : okT v t) (hv : v.any (wide_pred ()) = false) {n : Int} (hn : -8589934592 ≤ n ∧ n ≤ 8589934592) (h : sumOk t 1 (IntKind.i64.wrap (0 - n)) = true) : holdsF (mcF t n) v = (decide (valT v t ≤ n), 0) := by
  obtain ⟨r1, r2⟩ := sum3_val h ht
  unfold mcF
  rw [holds_val false r1 hv, r2, wrap_eq _ (by omega) (by omega)]
  congr 1
  rw [decide_eq_decide]; simp; omega
theorem ic_way (ht : okT v t) (hv : v.any (wide_pred ()) = false) {n : Int} (hn : -8589934592 ≤ n ∧ n ≤ 8589934592) (h : sumOk t 1 (IntKind.i64.wrap (0 - n)) = true) : holdsF (icF t n) v = (decide (valT v t = n), 0) := by
  obtain ⟨r1, r2⟩ := sum3_val h ht
  unfold icF
  rw [holds_val true r1 hv, r2, wrap_eq _ (by omega) (by omega)]
  congr 1
  rw [decide_eq_decide]; simp; omega
theorem lc_way (ht : okT v t) (hv : v.any (wide_pred ()) = false) {n : Int} (h : sumOk t (-1) n = true) : holdsF (lcF t n) v = (decide (n ≤ valT v t), 0) := by
  obtain ⟨r1, r2⟩ := sum3_val h ht
  unfold lcF
  rw [holds_val false r1 hv, r2]
  congr 1
  rw [decide_eq_decide]; simp; omega
theorem wayH1 {c : (Int × List (Int × Int)) × Bool} {b : Bool} (h : holdsF c v = (b, 0)) : wayH v [c] = b := by simp [wayH, h]
theorem wayH2 {c d : (Int × List (Int × Int)) × Bool} {b b' : Bool} (h : holdsF c v = (b, 0)) (h' : holdsF d v = (b', 0)) : wayH v [c, d] = (b && b') := by simp [wayH, h, h']
theorem wayH3 {c d e : (Int × List (Int × Int)) × Bool} {b b' b'' : Bool} (h : holdsF c v = (b, 0)) (h' : holdsF d v = (b', 0)) (h'' : holdsF e v = (b'', 0)) : wayH v [c, d, e] = (b && (b' && b'')) := by simp [wayH, h, h', h'']
theorem sign_which (ht : okT v t) (hv : v.any (wide_pred ()) = false) (h : (signF t).2 = 0) : whF v (signF t).1 0 (-1) = if valT v t < 0 then 0 else if valT v t > 0 then 2 else 1 := by
  obtain ⟨e, -, h⟩ := sign_eq h
  obtain ⟨h, c3⟩ := room0 h
  obtain ⟨h, c2⟩ := room0 h
  obtain ⟨-, c1⟩ := room0 h
  have w1 := wayH1 (mc_way ht hv (by omega) c1)
  have w2 := wayH1 (ic_way ht hv (by omega) c2)
  have w3 := wayH1 (lc_way ht hv c3)
  rw [e]
  have key : ∀ p : Nat, p < 3 → (decide (valT v t ≤ -1) = decide (0 = p) ∧ decide (valT v t = 0) = decide (1 = p) ∧ decide (1 ≤ valT v t) = decide (2 = p)) → whF v [[mcF t (-1)], [icF t 0], [lcF t 1]] 0 (-1) = p := fun p hp hq => by
    have := whF_one v [[mcF t (-1)], [icF t 0], [lcF t 1]] 0 p hp fun j hj => by
      match j, hj with
      | 0, _ => exact w1.trans hq.1
      | 1, _ => exact w2.trans hq.2.1
      | 2, _ => exact w3.trans hq.2.2
    rw [this]; simp
  split
  · exact key 0 (by omega) ⟨by rw [decide_eq_decide]; omega, by rw [decide_eq_decide]; omega, by rw [decide_eq_decide]; omega⟩
  · split
    · exact key 2 (by omega) ⟨by rw [decide_eq_decide]; omega, by rw [decide_eq_decide]; omega, by rw [decide_eq_decide]; omega⟩
    · exact key 1 (by omega) ⟨by rw [decide_eq_decide]; omega, by rw [decide_eq_decide]; omega, by rw [decide_eq_decide]; omega⟩
theorem below_which (ht : okT v t) (hv : v.any (wide_pred ()) = false) (h : (belowF t).2 = 0) : whF v (belowF t).1 0 (-1) = if valT v t < 0 then 0 else 1 := by
  obtain ⟨e, -, h⟩ := below_eq h
  obtain ⟨h, c2⟩ := room0 h
  obtain ⟨-, c1⟩ := room0 h
  have w1 := wayH1 (mc_way ht hv (by omega) c1)
  have w2 := wayH1 (lc_way ht hv c2)
  rw [e]
  have key : ∀ p : Nat, p < 2 → (decide (valT v t ≤ -1) = decide (0 = p) ∧ decide (0 ≤ valT v t) = decide (1 = p)) → whF v [[mcF t (-1)], [lcF t 0]] 0 (-1) = p := fun p hp hq => by
    have := whF_one v [[mcF t (-1)], [lcF t 0]] 0 p hp fun j hj => by
      match j, hj with
      | 0, _ => exact w1.trans hq.1
      | 1, _ => exact w2.trans hq.2
    rw [this]; simp
  split
  · exact key 0 (by omega) ⟨by rw [decide_eq_decide]; omega, by rw [decide_eq_decide]; omega⟩
  · exact key 1 (by omega) ⟨by rw [decide_eq_decide]; omega, by rw [decide_eq_decide]; omega⟩
theorem fit_which (ht : okT v t) (hv : v.any (wide_pred ()) = false) (h : (fitF t).2 = 0) : whF v (fitF t).1 0 (-1) = if valT v t > 2147483647 then 1 else if valT v t < -2147483648 then 2 else 0 := by
  obtain ⟨e, -, h⟩ := fit_eq h
  obtain ⟨h, c4⟩ := room0 h
  obtain ⟨h, c3⟩ := room0 h
  obtain ⟨h, c2⟩ := room0 h
  obtain ⟨-, c1⟩ := room0 h
  have w1 := wayH2 (mc_way ht hv (by omega) c1) (lc_way ht hv c2)
  have w2 := wayH1 (lc_way ht hv c3)
  have w3 := wayH1 (mc_way ht hv (by omega) c4)
  rw [e]
  have key : ∀ p : Nat, p < 3 → ((decide (valT v t ≤ 2147483647) && decide (-2147483648 ≤ valT v t)) = decide (0 = p) ∧ decide (2147483648 ≤ valT v t) = decide (1 = p) ∧ decide (valT v t ≤ -2147483649) = decide (2 = p)) → whF v [[mcF t 2147483647, lcF t (-2147483648)], [lcF t 2147483648], [mcF t (-2147483649)]] 0 (-1) = p := fun p hp hq => by
    have := whF_one v [[mcF t 2147483647, lcF t (-2147483648)], [lcF t 2147483648], [mcF t (-2147483649)]] 0 p hp fun j hj => by
      match j, hj with
      | 0, _ => exact w1.trans hq.1
      | 1, _ => exact w2.trans hq.2.1
      | 2, _ => exact w3.trans hq.2.2
    rw [this]; simp
  rw [← Bool.decide_and] at key
  split
  · exact key 1 (by omega) ⟨by rw [decide_eq_decide]; omega, by rw [decide_eq_decide]; omega, by rw [decide_eq_decide]; omega⟩
  · split
    · exact key 2 (by omega) ⟨by rw [decide_eq_decide]; omega, by rw [decide_eq_decide]; omega, by rw [decide_eq_decide]; omega⟩
    · exact key 0 (by omega) ⟨by rw [decide_eq_decide]; omega, by rw [decide_eq_decide]; omega, by rw [decide_eq_decide]; omega⟩
theorem idx_rooms : ∀ (k : Nat), idxE t k = 0 → sumOk t 1 (IntKind.i64.wrap (0 - -1)) = true ∧ ∀ j < k, sumOk t 1 (IntKind.i64.wrap (0 - (j : Int))) = true
  | 0, h => ⟨(room0 h).2, fun j hj => by omega⟩
  | k + 1, h => by
    obtain ⟨h1, c⟩ := room0 (show roomE (idxE t k) (sumOk t 1 (IntKind.i64.wrap (0 - (k : Int)))) = 0 from h)
    obtain ⟨i1, i2⟩ := idx_rooms k h1
    refine ⟨i1, fun j hj => ?_⟩
    rcases Nat.lt_succ_iff_lt_or_eq.1 hj with q | rfl
    · exact i2 j q
    · exact c
theorem idxL_at : ∀ (k j : Nat), j < k → (idxL t k).getD (j + 1) [] = [icF t j]
  | k + 1, j, h => by
    rw [idxL]
    rcases Nat.lt_succ_iff_lt_or_eq.1 h with q | rfl
    · rw [List.getD_eq_getElem?_getD, List.getElem?_append_left (by rw [idxL_len]; omega), ← List.getD_eq_getElem?_getD]; exact idxL_at k j q
    · rw [List.getD_eq_getElem?_getD, List.getElem?_append_right (by rw [idxL_len]; omega), idxL_len]; simp
theorem idxL_at0 : ∀ (k : Nat), (idxL t k).getD 0 [] = [mcF t (-1)]
  | 0 => rfl
  | k + 1 => by rw [idxL, List.getD_eq_getElem?_getD, List.getElem?_append_left (by rw [idxL_len]; omega), ← List.getD_eq_getElem?_getD]; exact idxL_at0 k
theorem index_which (ht : okT v t) (hv : v.any (wide_pred ()) = false) {n : Int} (h : (indexF t n).2 = 0) : whF v (indexF t n).1 0 (-1) = if valT v t ≥ n then n + 1 else if valT v t ≥ 0 then valT v t + 1 else 0 := by
  obtain ⟨e, -, hn, h⟩ := index_eq h
  obtain ⟨h, cl⟩ := room0 h
  obtain ⟨c1, c2⟩ := idx_rooms _ h
  have w1 := wayH1 (mc_way ht hv (by omega) c1)
  have w2 := fun j (hj : j < n.toNat) => wayH1 (ic_way ht hv (by omega) (c2 j hj))
  have w3 := wayH1 (lc_way ht hv cl)
  rw [e]
  have key : ∀ p : Nat, p < n.toNat + 2 → (decide (valT v t ≤ -1) = decide (0 = p) ∧ (∀ j, j < n.toNat → decide (valT v t = (j : Int)) = decide (j + 1 = p)) ∧ decide (n ≤ valT v t) = decide (n.toNat + 1 = p)) → whF v (idxL t n.toNat ++ [[lcF t n]]) 0 (-1) = p := fun p hp hq => by
    have := whF_one v (idxL t n.toNat ++ [[lcF t n]]) 0 p (by rw [List.length_append, idxL_len]; exact hp) fun j hj => by
      rw [List.length_append, idxL_len] at hj
      have hj : j < n.toNat + 2 := hj
      by_cases h1 : j < n.toNat + 1
      · rw [List.getD_eq_getElem?_getD, List.getElem?_append_left (by rw [idxL_len]; exact h1), ← List.getD_eq_getElem?_getD]
        cases j with
        | zero => rw [idxL_at0]; exact w1.trans hq.1
        | succ j => rw [idxL_at _ j (by omega)]; exact (w2 j (by omega)).trans (hq.2.1 j (by omega))
      · have : j = n.toNat + 1 := by omega
        subst this
        rw [List.getD_eq_getElem?_getD, List.getElem?_append_right (by rw [idxL_len]; omega), idxL_len]
        simpa using w3.trans hq.2.2
    rw [this]; simp
  split
  · rw [key (n.toNat + 1) (by omega) ⟨by rw [decide_eq_decide]; omega, fun j hj => by rw [decide_eq_decide]; omega, by rw [decide_eq_decide]; omega⟩]; omega
  · split
    · rw [key ((valT v t).toNat + 1) (by omega) ⟨by rw [decide_eq_decide]; omega, fun j hj => by rw [decide_eq_decide]; omega, by rw [decide_eq_decide]; omega⟩]; omega
    · rw [key 0 (by omega) ⟨by rw [decide_eq_decide]; omega, fun j hj => by rw [decide_eq_decide]; omega, by rw [decide_eq_decide]; omega⟩]; rfl
theorem room_0c (e : Int) (b : Bool) (h : e = 0 ∨ e = 12) : roomE e b = 0 ∨ roomE e b = 12 := by unfold roomE; exact (by cases b; exact .inr rfl; exact h)
theorem told_0c (e : Int) (l : List (List ((Int × List (Int × Int)) × Bool))) (h : e = 0 ∨ e = 12) : (toldF e l).2 = 0 ∨ (toldF e l).2 = 12 := by
  unfold toldF; split
  · exact .inl rfl
  · rename_i c; exact .inr (h.resolve_left c)
theorem sign_0c (h : right t) : (signF t).2 = 0 ∨ (signF t).2 = 12 := by unfold signF; rw [if_pos h]; exact told_0c _ _ (room_0c _ _ (room_0c _ _ (room_0c _ _ (.inl rfl))))
theorem below_0c (h : right t) : (belowF t).2 = 0 ∨ (belowF t).2 = 12 := by unfold belowF; rw [if_pos h]; exact told_0c _ _ (room_0c _ _ (room_0c _ _ (.inl rfl)))
theorem fit_0c (h : right t) : (fitF t).2 = 0 ∨ (fitF t).2 = 12 := by unfold fitF; rw [if_pos h]; exact told_0c _ _ (room_0c _ _ (room_0c _ _ (room_0c _ _ (room_0c _ _ (.inl rfl)))))
theorem idxE_0c : ∀ k, idxE t k = 0 ∨ idxE t k = 12
  | 0 => room_0c _ _ (.inl rfl)
  | k + 1 => room_0c _ _ (idxE_0c k)
theorem index_0c {n : Int} (h : right t) (hn : 0 ≤ n ∧ n ≤ 16) : (indexF t n).2 = 0 ∨ (indexF t n).2 = 12 := by unfold indexF; rw [if_pos ⟨h, hn⟩]; exact told_0c _ _ (room_0c _ _ (idxE_0c _))
theorem n1 {x : Int} (h : (x == 0) = true) (h2 : (x != 0) = true) : False := by simp at h h2; omega
theorem n2 {x : Int} (h : (x == 0) = false) (h2 : (x != 0) = false) : False := by simp at h h2; omega
theorem n3 {x : Int} (z : x = 0 ∨ x = 12) (h : (x == 0) = false) (h2 : (x != 12) = true) : False := by simp at h h2; omega
theorem below_cases (t : Int × List (Int × Int)) : (belowF t).1 = [[mcF t (-1)], [lcF t 0]] ∨ (belowF t).1 = [] := by
  unfold belowF; split
  · exact told_cases ..
  · exact .inr rfl
theorem dom_of {l : List (List ((Int × List (Int × Int)) × Bool))} (h1 : l.length ≤ 100) (h2 : ∀ w ∈ l, okW w) (h3 : v.length ≤ 4611686018427387904) : f_which.dom (l, v) := ⟨by show l.length ≤ 1000000; omega, fun w hw => by have := (h2 w hw).1; show w.length ≤ 1000000; omega, h3⟩
theorem sign_dom (h : v.length ≤ 4611686018427387904) : f_which.dom ((signF t).1, v) := dom_of (by have := sign_len t; omega) (fun w hw => allL_ok t 0 w (by unfold allL; simp [hw])) h
theorem fit_dom (h : v.length ≤ 4611686018427387904) : f_which.dom ((fitF t).1, v) := dom_of (by have := fit_len t; omega) (fun w hw => allL_ok t 0 w (by unfold allL; simp [hw])) h
theorem index_dom {n : Int} (hn : n ≤ 16) (h : v.length ≤ 4611686018427387904) : f_which.dom ((indexF t n).1, v) := dom_of (by have := index_len t n hn; omega) (fun w hw => allL_ok t n w (by unfold allL; simp [hw])) h
theorem below_dom (h : v.length ≤ 4611686018427387904) : f_which.dom ((belowF t).1, v) := dom_of (by rcases below_cases t with e | e <;> rw [e] <;> simp) (fun w hw => by
  rcases below_cases t with e | e <;> rw [e] at hw
  · simp only [List.mem_cons, List.not_mem_nil, or_false] at hw
    rcases hw with rfl | rfl
    · exact okW1 (mc_right ..)
    · exact okW1 (lc_right ..)
  · cases hw) h
def ForkParts : Ctr := { A := (Int × List (Int × Int)) × Int × List Int, enc := fun x => [termS x.1, I x.2.1, ints x.2.2], dom := fun _ => True, res := fun _ _ => .tt }
set_option maxRecDepth 100000 in
set_option maxHeartbeats 8000000 in
theorem ForkParts_ok : CtrSound Try.prog 5 ForkParts :=
  ctr_of_ax (env_okB tys_ok (eqs := []) trivial (cs := [(7, Heavy13), (16, ref_Told), (17, term_Value), (9, fk_Sign), (10, fk_Below), (11, fk_Fit), (12, fk_Index), (18, f_which), (15, wakes20)]) ⟨Heavy13_ok, ref_Told_ok, term_Value_ok, fk_Sign_ok, fk_Below_ok, fk_Fit_ok, fk_Index_ok, f_which_ok, wakes20_ok, trivial⟩ (bs := []) trivial (cut := [12, 15, 18, 23, 26, 31, 34])) mixed _ Try.func5 (by kernel_rfl) rfl (fun _ _ => Nat.le_of_ble_eq_true rfl) fun ((t, n, v) : (Int × List (Int × Int)) × Int × List Int) id hd => by
    have hu := u17_in n
    refine ⟨t, ⟨.refl _, trivial⟩, rfl, trivial, fun h1 => ?_, fun h1 => ⟨fun h2 => ?_, fun h2 => ?_⟩⟩
    · exact ⟨.refl _, rfl⟩
    · exact ⟨.refl _, rfl⟩
    have hlen : v.length ≤ 60 := by have := of_decide_eq_false h2; dsimp only at this; omega
    have hlb : v.length ≤ 4611686018427387904 := by omega
    refine ⟨(t, v), ⟨.refl _, .refl _, trivial⟩, rfl, hlb, fun h3 => ?_, fun h3 => ?_⟩
    · exact ⟨.refl _, rfl⟩
    obtain ⟨hr, hb, hW, hK⟩ := value_told (eqz h3)
    have hT : okT v t := ⟨hr, hb⟩
    have hK1 : (valueF t v).1 = valT v t := by rw [hK]; rfl
    have zS := sign_0c hr
    have zB := below_0c hr
    have zF := fit_0c hr
    have zI := index_0c (n := u17 n) hr (by omega)
    have dS := sign_dom (t := t) hlb
    have dB := below_dom (t := t) hlb
    have dF := fit_dom (t := t) hlb
    have dI := index_dom (t := t) (n := u17 n) (by omega) hlb
    have hu' : IntKind.i64.wrap (u17 n + 1) = u17 n + 1 := wrap_eq _ (by omega) (by omega)
    have sg0 : decide ((valueF t v).1 < 0) = true → (0 : Int) = (if (valueF t v).1 < 0 then 0 else if (valueF t v).1 > 0 then 2 else 1) := fun h => (if_pos (of_decide_eq_true h)).symm
    have sg2 : decide ((valueF t v).1 < 0) = false → decide ((valueF t v).1 > 0) = true → (2 : Int) = (if (valueF t v).1 < 0 then 0 else if (valueF t v).1 > 0 then 2 else 1) := fun h h2 => by rw [if_neg (of_decide_eq_false h), if_pos (of_decide_eq_true h2)]
    have sg1 : decide ((valueF t v).1 < 0) = false → decide ((valueF t v).1 > 0) = false → (1 : Int) = (if (valueF t v).1 < 0 then 0 else if (valueF t v).1 > 0 then 2 else 1) := fun h h2 => by rw [if_neg (of_decide_eq_false h), if_neg (of_decide_eq_false h2)]
    have ft1 : decide ((valueF t v).1 > 2147483647) = true → (1 : Int) = (if (valueF t v).1 > 2147483647 then 1 else if (valueF t v).1 < -2147483648 then 2 else 0) := fun h => (if_pos (of_decide_eq_true h)).symm
    have ft2 : decide ((valueF t v).1 > 2147483647) = false → decide ((valueF t v).1 < -2147483648) = true → (2 : Int) = (if (valueF t v).1 > 2147483647 then 1 else if (valueF t v).1 < -2147483648 then 2 else 0) := fun h h2 => by rw [if_neg (of_decide_eq_false h), if_pos (of_decide_eq_true h2)]
    have ft0 : decide ((valueF t v).1 > 2147483647) = false → decide ((valueF t v).1 < -2147483648) = false → (0 : Int) = (if (valueF t v).1 > 2147483647 then 1 else if (valueF t v).1 < -2147483648 then 2 else 0) := fun h h2 => by rw [if_neg (of_decide_eq_false h), if_neg (of_decide_eq_false h2)]
    have at2 : decide ((valueF t v).1 ≥ u17 n) = true → IntKind.i64.wrap (u17 n + 1) = (if (valueF t v).1 ≥ u17 n then u17 n + 1 else if (valueF t v).1 ≥ 0 then (valueF t v).1 + 1 else 0) := fun h => by rw [hu', if_pos (of_decide_eq_true h)]
    have at1' : decide ((valueF t v).1 ≥ u17 n) = false → decide ((valueF t v).1 ≥ 0) = true → IntKind.i64.wrap ((valueF t v).1 + 1) = (if (valueF t v).1 ≥ u17 n then u17 n + 1 else if (valueF t v).1 ≥ 0 then (valueF t v).1 + 1 else 0) := fun h h2 => by
      have h := of_decide_eq_false h
      have h2 := of_decide_eq_true h2
      rw [if_neg h, if_pos h2, wrap_eq _ (by omega) (by omega)]
    have at0 : decide ((valueF t v).1 ≥ u17 n) = false → decide ((valueF t v).1 ≥ 0) = false → (0 : Int) = (if (valueF t v).1 ≥ u17 n then u17 n + 1 else if (valueF t v).1 ≥ 0 then (valueF t v).1 + 1 else 0) := fun h h2 => by rw [if_neg (of_decide_eq_false h), if_neg (of_decide_eq_false h2)]
    have wS : (signF t).2 = 0 → whF v (signF t).1 0 (-1) = (if (valueF t v).1 < 0 then 0 else if (valueF t v).1 > 0 then 2 else 1) := fun h => by rw [sign_which hT hW h, hK1]
    have wB : (belowF t).2 = 0 → whF v (belowF t).1 0 (-1) = (if (1 : Int) < (if (valueF t v).1 < 0 then 0 else if (valueF t v).1 > 0 then 2 else 1) then 1 else (if (valueF t v).1 < 0 then 0 else if (valueF t v).1 > 0 then 2 else 1)) := fun h => by
      rw [below_which hT hW h, hK1]
      by_cases a : valT v t < 0
      · simp [a]
      · by_cases b : valT v t > 0 <;> simp [a, b]
    have wF : (fitF t).2 = 0 → whF v (fitF t).1 0 (-1) = (if (valueF t v).1 > 2147483647 then 1 else if (valueF t v).1 < -2147483648 then 2 else 0) := fun h => by rw [fit_which hT hW h, hK1]
    have wI : (indexF t (u17 n)).2 = 0 → whF v (indexF t (u17 n)).1 0 (-1) = (if (valueF t v).1 ≥ u17 n then u17 n + 1 else if (valueF t v).1 ≥ 0 then (valueF t v).1 + 1 else 0) := fun h => by rw [index_which hT hW h, hK1]
    refine ⟨by decide, ?_⟩
    refine ⟨(t, v), ⟨.refl _, .refl _, trivial⟩, rfl, hlb, fun h4 => ?_, fun h4 => ?_⟩
    · exact absurd h4 (by rw [show (valueF (t, v).1 (t, v).2).2 = 0 from eqz h3]; decide)
    refine ⟨Unit, fun _ => [(1, I (u17 n)), (2, ints v), (3, .box 3 0), (7, I (valueF t v).1), (9, I (if (valueF t v).1 < 0 then 0 else if (valueF t v).1 > 0 then 2 else 1))], fun _ => [(3, termC t)], fun _ => True, ?_, fun _ _ => ?_⟩
    · refine ⟨?_, ?_⟩
      · skip
        intro h -- decide ((valueF (t, v).fst (t, v).snd).fst < 0) = true
        dsimp only at h
        exact ⟨(), trivial, ⟨rfl, rfl⟩, .refl _, .refl _, .refl _, (.int (sg0 h)), .refl _, ⟨.refl _, .refl _, trivial⟩, trivial⟩
      · skip
        intro h -- decide ((valueF (t, v).fst (t, v).snd).fst < 0) = false
        dsimp only at h
        refine ⟨?_, ?_⟩
        · skip
          intro h -- decide ((valueF (t, v).fst (t, v).snd).fst > 0) = true
          dsimp only at h
          exact ⟨(), trivial, ⟨rfl, rfl⟩, .refl _, .refl _, .refl _, (.int (sg2 ‹decide ((valueF t v).1 < 0) = false› h)), .refl _, ⟨.refl _, .refl _, trivial⟩, trivial⟩
        · skip
          intro h -- decide ((valueF (t, v).fst (t, v).snd).fst > 0) = false
          dsimp only at h
          exact ⟨(), trivial, ⟨rfl, rfl⟩, .refl _, .refl _, .refl _, (.int (sg1 ‹decide ((valueF t v).1 < 0) = false› h)), .refl _, ⟨.refl _, .refl _, trivial⟩, trivial⟩
    refine ⟨Unit, fun _ => [(1, I (u17 n)), (2, ints v), (3, .box 3 0), (7, I (valueF t v).1), (9, I (if (valueF t v).1 < 0 then 0 else if (valueF t v).1 > 0 then 2 else 1))], fun _ => [(3, termC t)], fun _ => True, ?_, fun _ _ => ?_⟩
    · refine ⟨t, ⟨.refl _, trivial⟩, rfl, trivial, ?_⟩
      refine ⟨?_, ?_⟩
      · skip
        intro h -- ((signF t).snd == 0) = true
        refine ⟨((signF t).1, v), ⟨.refl _, .refl _, trivial⟩, rfl, dS, ?_⟩
        refine ⟨?_, ?_⟩
        · skip
          intro h -- (whF ((signF t).fst, v).snd ((signF t).fst, v).fst 0 (-1) != if (valueF t v).fst < 0 then 0 else if (valueF t v).fst > 0 then 2 else 1) = true
          dsimp only at h
          (have h := (show (whF v (signF t).1 0 (-1) != _) = true from h); rw [wS (eq_of_beq ‹((signF t).2 == 0) = true›)] at h; simp at h; done)
        · skip
          intro h -- (whF ((signF t).fst, v).snd ((signF t).fst, v).fst 0 (-1) != if (valueF t v).fst < 0 then 0 else if (valueF t v).fst > 0 then 2 else 1) = false
          dsimp only at h
          refine ⟨?_, ?_⟩
          · skip
            intro h -- ((signF t).snd != 0) = true
            (exact (n1 ‹_› h).elim)
          · skip
            intro h -- ((signF t).snd != 0) = false
            exact ⟨(), trivial, ⟨rfl, rfl⟩, .refl _, .refl _, .refl _, .refl _, .refl _, ⟨.refl _, .refl _, trivial⟩, trivial⟩
      · skip
        intro h -- ((signF t).snd == 0) = false
        refine ⟨?_, ?_⟩
        · skip
          intro h -- ((signF t).snd != 0) = true
          refine ⟨?_, ?_⟩
          · skip
            intro h -- ((signF t).snd != 12) = true
            (exact (n3 zS ‹_› h).elim)
          · skip
            intro h -- ((signF t).snd != 12) = false
            exact ⟨(), trivial, ⟨rfl, rfl⟩, .refl _, .refl _, .refl _, .refl _, .refl _, ⟨.refl _, .refl _, trivial⟩, trivial⟩
        · skip
          intro h -- ((signF t).snd != 0) = false
          (exact (n2 ‹_› h).elim)
    refine ⟨Unit, fun _ => [(1, I (u17 n)), (2, ints v), (3, .box 3 0), (7, I (valueF t v).1)], fun _ => [(3, termC t)], fun _ => True, ?_, fun _ _ => ?_⟩
    · refine ⟨t, ⟨.refl _, trivial⟩, rfl, trivial, ?_⟩
      refine ⟨?_, ?_⟩
      · skip
        intro h -- ((belowF t).snd == 0) = true
        refine ⟨((belowF t).1, v), ⟨.refl _, .refl _, trivial⟩, rfl, dB, ?_⟩
        refine ⟨?_, ?_⟩
        · skip
          intro h -- (whF ((belowF t).fst, v).snd ((belowF t).fst, v).fst 0 (-1) != if 1 < if (valueF t v).fst < 0 then 0 else if (valueF t v).fst > 0 then 2 else 1 then 1 else if (
          dsimp only at h
          (have h := (show (whF v (belowF t).1 0 (-1) != _) = true from h); rw [wB (eq_of_beq ‹((belowF t).2 == 0) = true›)] at h; simp at h; done)
        · skip
          intro h -- (whF ((belowF t).fst, v).snd ((belowF t).fst, v).fst 0 (-1) != if 1 < if (valueF t v).fst < 0 then 0 else if (valueF t v).fst > 0 then 2 else 1 then 1 else if (
          dsimp only at h
          refine ⟨?_, ?_⟩
          · skip
            intro h -- ((belowF t).snd != 0) = true
            (exact (n1 ‹_› h).elim)
          · skip
            intro h -- ((belowF t).snd != 0) = false
            exact ⟨(), trivial, ⟨rfl, rfl⟩, .refl _, .refl _, .refl _, .refl _, ⟨.refl _, .refl _, trivial⟩, trivial⟩
      · skip
        intro h -- ((belowF t).snd == 0) = false
        refine ⟨?_, ?_⟩
        · skip
          intro h -- ((belowF t).snd != 0) = true
          refine ⟨?_, ?_⟩
          · skip
            intro h -- ((belowF t).snd != 12) = true
            (exact (n3 zB ‹_› h).elim)
          · skip
            intro h -- ((belowF t).snd != 12) = false
            exact ⟨(), trivial, ⟨rfl, rfl⟩, .refl _, .refl _, .refl _, .refl _, ⟨.refl _, .refl _, trivial⟩, trivial⟩
        · skip
          intro h -- ((belowF t).snd != 0) = false
          (exact (n2 ‹_› h).elim)
    refine ⟨Unit, fun _ => [(1, I (u17 n)), (2, ints v), (3, .box 3 0), (7, I (valueF t v).1), (14, I (if (valueF t v).1 > 2147483647 then 1 else if (valueF t v).1 < -2147483648 then 2 else 0))], fun _ => [(3, termC t)], fun _ => True, ?_, fun _ _ => ?_⟩
    · refine ⟨?_, ?_⟩
      · skip
        intro h -- decide ((valueF t v).fst > 2147483647) = true
        exact ⟨(), trivial, ⟨rfl, rfl⟩, .refl _, .refl _, .refl _, .refl _, (.int (ft1 h)), ⟨.refl _, .refl _, trivial⟩, trivial⟩
      · skip
        intro h -- decide ((valueF t v).fst > 2147483647) = false
        refine ⟨?_, ?_⟩
        · skip
          intro h -- decide ((valueF t v).fst < -2147483648) = true
          exact ⟨(), trivial, ⟨rfl, rfl⟩, .refl _, .refl _, .refl _, .refl _, (.int (ft2 ‹decide ((valueF t v).1 > 2147483647) = false› h)), ⟨.refl _, .refl _, trivial⟩, trivial⟩
        · skip
          intro h -- decide ((valueF t v).fst < -2147483648) = false
          exact ⟨(), trivial, ⟨rfl, rfl⟩, .refl _, .refl _, .refl _, .refl _, (.int (ft0 ‹decide ((valueF t v).1 > 2147483647) = false› h)), ⟨.refl _, .refl _, trivial⟩, trivial⟩
    refine ⟨Unit, fun _ => [(1, I (u17 n)), (2, ints v), (3, .box 3 0), (7, I (valueF t v).1)], fun _ => [(3, termC t)], fun _ => True, ?_, fun _ _ => ?_⟩
    · refine ⟨t, ⟨.refl _, trivial⟩, rfl, trivial, ?_⟩
      refine ⟨?_, ?_⟩
      · skip
        intro h -- ((fitF t).snd == 0) = true
        refine ⟨((fitF t).1, v), ⟨.refl _, .refl _, trivial⟩, rfl, dF, ?_⟩
        refine ⟨?_, ?_⟩
        · skip
          intro h -- (whF ((fitF t).fst, v).snd ((fitF t).fst, v).fst 0 (-1) != if (valueF t v).fst > 2147483647 then 1 else if (valueF t v).fst < -2147483648 then 2 else 0) = true
          dsimp only at h
          (have h := (show (whF v (fitF t).1 0 (-1) != _) = true from h); rw [wF (eq_of_beq ‹((fitF t).2 == 0) = true›)] at h; simp at h; done)
        · skip
          intro h -- (whF ((fitF t).fst, v).snd ((fitF t).fst, v).fst 0 (-1) != if (valueF t v).fst > 2147483647 then 1 else if (valueF t v).fst < -2147483648 then 2 else 0) = false
          dsimp only at h
          refine ⟨?_, ?_⟩
          · skip
            intro h -- ((fitF t).snd != 0) = true
            (exact (n1 ‹_› h).elim)
          · skip
            intro h -- ((fitF t).snd != 0) = false
            exact ⟨(), trivial, ⟨rfl, rfl⟩, .refl _, .refl _, .refl _, .refl _, ⟨.refl _, .refl _, trivial⟩, trivial⟩
      · skip
        intro h -- ((fitF t).snd == 0) = false
        refine ⟨?_, ?_⟩
        · skip
          intro h -- ((fitF t).snd != 0) = true
          refine ⟨?_, ?_⟩
          · skip
            intro h -- ((fitF t).snd != 12) = true
            (exact (n3 zF ‹_› h).elim)
          · skip
            intro h -- ((fitF t).snd != 12) = false
            exact ⟨(), trivial, ⟨rfl, rfl⟩, .refl _, .refl _, .refl _, .refl _, ⟨.refl _, .refl _, trivial⟩, trivial⟩
        · skip
          intro h -- ((fitF t).snd != 0) = false
          (exact (n2 ‹_› h).elim)
    refine ⟨Unit, fun _ => [(1, I (u17 n)), (2, ints v), (3, .box 3 0), (7, I (valueF t v).1), (17, I (if (valueF t v).1 ≥ u17 n then u17 n + 1 else if (valueF t v).1 ≥ 0 then (valueF t v).1 + 1 else 0))], fun _ => [(3, termC t)], fun _ => True, ?_, fun _ _ => ?_⟩
    · refine ⟨?_, ?_⟩
      · skip
        intro h -- decide ((valueF t v).fst ≥ u17 n) = true
        exact ⟨(), trivial, ⟨rfl, rfl⟩, .refl _, .refl _, .refl _, (.int (at2 h)), .refl _, ⟨.refl _, .refl _, trivial⟩, trivial⟩
      · skip
        intro h -- decide ((valueF t v).fst ≥ u17 n) = false
        refine ⟨?_, ?_⟩
        · skip
          intro h -- decide ((valueF t v).fst ≥ 0) = true
          exact ⟨(), trivial, ⟨rfl, rfl⟩, .refl _, .refl _, .refl _, (.int (at1' ‹decide ((valueF t v).1 ≥ u17 n) = false› h)), .refl _, ⟨.refl _, .refl _, trivial⟩, trivial⟩
        · skip
          intro h -- decide ((valueF t v).fst ≥ 0) = false
          exact ⟨(), trivial, ⟨rfl, rfl⟩, .refl _, .refl _, .refl _, (.int (at0 ‹decide ((valueF t v).1 ≥ u17 n) = false› h)), .refl _, ⟨.refl _, .refl _, trivial⟩, trivial⟩
    refine ⟨Unit, fun _ => [(1, I (u17 n)), (2, ints v), (3, .box 3 0), (7, I (valueF t v).1)], fun _ => [(3, termC t)], fun _ => True, ?_, fun _ _ => ?_⟩
    · refine ⟨(t, u17 n), ⟨.refl _, .refl _, trivial⟩, rfl, trivial, ?_⟩
      refine ⟨?_, ?_⟩
      · skip
        intro h -- ((indexF (t, u17 n).fst (t, u17 n).snd).snd == 0) = true
        dsimp only at h
        refine ⟨((indexF t (u17 n)).1, v), ⟨.refl _, .refl _, trivial⟩, rfl, dI, ?_⟩
        refine ⟨?_, ?_⟩
        · skip
          intro h -- (whF ((indexF t (u17 n)).fst, v).snd ((indexF t (u17 n)).fst, v).fst 0 (-1) != if (valueF t v).fst ≥ u17 n then u17 n + 1 else if (valueF t v).fst ≥ 0 then (val
          dsimp only at h
          (have h := (show (whF v (indexF t (u17 n)).1 0 (-1) != _) = true from h); rw [wI (eq_of_beq ‹((indexF t (u17 n)).2 == 0) = true›)] at h; simp at h; done)
        · skip
          intro h -- (whF ((indexF t (u17 n)).fst, v).snd ((indexF t (u17 n)).fst, v).fst 0 (-1) != if (valueF t v).fst ≥ u17 n then u17 n + 1 else if (valueF t v).fst ≥ 0 then (val
          dsimp only at h
          refine ⟨?_, ?_⟩
          · skip
            intro h -- ((indexF (t, u17 n).fst (t, u17 n).snd).snd != 0) = true
            dsimp only at h
            (exact (n1 ‹_› h).elim)
          · skip
            intro h -- ((indexF (t, u17 n).fst (t, u17 n).snd).snd != 0) = false
            dsimp only at h
            exact ⟨(), trivial, ⟨rfl, rfl⟩, .refl _, .refl _, .refl _, .refl _, ⟨.refl _, .refl _, trivial⟩, trivial⟩
      · skip
        intro h -- ((indexF (t, u17 n).fst (t, u17 n).snd).snd == 0) = false
        dsimp only at h
        refine ⟨?_, ?_⟩
        · skip
          intro h -- ((indexF (t, u17 n).fst (t, u17 n).snd).snd != 0) = true
          dsimp only at h
          refine ⟨?_, ?_⟩
          · skip
            intro h -- ((indexF (t, u17 n).fst (t, u17 n).snd).snd != 12) = true
            dsimp only at h
            (exact (n3 zI ‹_› h).elim)
          · skip
            intro h -- ((indexF (t, u17 n).fst (t, u17 n).snd).snd != 12) = false
            dsimp only at h
            exact ⟨(), trivial, ⟨rfl, rfl⟩, .refl _, .refl _, .refl _, .refl _, ⟨.refl _, .refl _, trivial⟩, trivial⟩
        · skip
          intro h -- ((indexF (t, u17 n).fst (t, u17 n).snd).snd != 0) = false
          dsimp only at h
          (exact (n2 ‹_› h).elim)
    refine ⟨(), trivial, rfl, trivial, ?_⟩
    exact ⟨.refl _, rfl⟩
end Go.Proofs.Ytndndemnjmdanaa.Ax
