/- Layer fork: the ways of a quotient; ForkQuot. -/
import Derived.Test.YtndndemnjmdanaaKg
set_option linter.unusedVariables false
set_option linter.unusedSimpArgs false
namespace Go.Proofs.Ytndndemnjmdanaa.Ax
open Go Go.RowKit
def ref_Value : Ctr := { A := (Int × List (Int × Int)) × List Int, enc := fun x => [termS x.1, ints x.2], dom := fun x => (valueF x.1 x.2).2 = 0, res := fun x _ => I (valueF x.1 x.2).1 }
set_option maxRecDepth 100000 in
set_option maxHeartbeats 4000000 in
theorem ref_Value_ok : CtrSound Try.prog 22 ref_Value :=
  ctr_of_ax (env_ok tys_ok (eqs := []) trivial (cs := []) trivial) mixed _ Try.func22 (by kernel_rfl) rfl (fun _ _ => Nat.le_of_ble_eq_true rfl) fun (((c, l), v) : (Int × List (Int × Int)) × List Int) id hd => by
    have hd : (valueF (c, l) v).2 = 0 := hd
    have T := value_told hd
    have hr := T.1
    have hq := T.2.1
    have hp := T.2.2.1
    have e : (valueF (c, l) v).1 = valS v c l := by rw [T.2.2.2, valS_dot]
    clear T
    have hlen : l.length ≤ 40 := hr.2.2.1
    refine ⟨Nat × Int, fun s => [(1, ints v), (2, .box 2 0), (5, I s.2), (6, I s.1)], fun s => [(2, [I c, monos l])],
      fun s => s.1 ≤ l.length ∧ valS v s.2 (l.drop s.1) = valS v c l ∧ s.2.natAbs ≤ 1099511627776 + s.1 * 2251799813685248, fun s => l.length - s.1,
      ⟨(0, c), ⟨Nat.zero_le _, rfl, by have := hr.1; have := hr.2.1; show c.natAbs ≤ 1099511627776 + 0 * 2251799813685248; dsimp only at *; omega⟩, ⟨⟨rfl, rfl⟩, .refl _, .refl _, .refl _, .refl _, ⟨.refl _, .refl _, trivial⟩, trivial⟩⟩, fun ((i, n) : Nat × Int) hi => ?_⟩
    have hil : i ≤ l.length := hi.1
    have hk : valS v n (l.drop i) = valS v c l := hi.2.1
    have hn : n.natAbs ≤ 1099511627776 + i * 2251799813685248 := hi.2.2
    have hwj : IntKind.i64.wrap ((i : Int) + 1) = ((i + 1 : Nat) : Int) := by rw [wrap_eq _ (by omega) (by omega)]; omega
    refine ⟨fun h => ?_, fun h => ?_⟩
    · have hlt : i < l.length := of_decide_lt h
      have g : good l i := hr.2.2.2 i hlt
      have hb : (l.getD i (0, 0)).1 < (v.length : Int) := by
        have := List.any_eq_false.1 hq (l.getD i (0, 0)) (getD_mem l i _ hlt)
        simpa [beyond_pred] using this
      have hw : -2147483648 ≤ v.getD (l.getD i (0, 0)).1.toNat 0 ∧ v.getD (l.getD i (0, 0)).1.toNat 0 ≤ 2147483647 := by
        have h0 := g.1
        have := List.any_eq_false.1 hp (v.getD (l.getD i (0, 0)).1.toNat 0) (getD_mem v _ 0 (by omega))
        simpa [wide_pred] using this
      have hm := mulB (l.getD i (0, 0)).2 (v.getD (l.getD i (0, 0)).1.toNat 0) g.2.2.2.2 hw
      have w1 : IntKind.i64.wrap ((l.getD i (0, 0)).2 * v.getD (l.getD i (0, 0)).1.toNat 0) = (l.getD i (0, 0)).2 * v.getD (l.getD i (0, 0)).1.toNat 0 := wrap_eq _ (by omega) (by omega)
      have w2 : IntKind.i64.wrap (n + (l.getD i (0, 0)).2 * v.getD (l.getD i (0, 0)).1.toNat 0) = n + (l.getD i (0, 0)).2 * v.getD (l.getD i (0, 0)).1.toNat 0 := wrap_eq _ (by omega) (by omega)
      rw [drop_at (0, 0) l i hlt, valS] at hk
      refine ⟨by kernel_rfl, ?_⟩
      refine ⟨⟨by omega, by dsimp only; omega⟩, ⟨by omega, by dsimp only; omega⟩, ⟨g.1, hb⟩, ?_⟩
      exact ⟨(i + 1, n + (l.getD i (0, 0)).2 * v.getD (l.getD i (0, 0)).1.toNat 0), ⟨hlt, hk, by show (n + (l.getD i (0, 0)).2 * v.getD (l.getD i (0, 0)).1.toNat 0).natAbs ≤ 1099511627776 + (i + 1) * 2251799813685248; omega⟩, by show l.length - (i + 1) < l.length - i; omega, ⟨rfl, rfl⟩, .refl _, .int ((congrArg (fun z => IntKind.i64.wrap (n + z)) w1).trans w2), .refl _, .int hwj, ⟨.refl _, .refl _, trivial⟩, trivial⟩
    · have hge : i = l.length := of_decide_ge h hil
      subst hge
      rw [List.drop_length] at hk
      exact ⟨.int (by rw [e]; exact hk), rfl⟩

def f_Fits : Ctr := { A := Int, enc := fun n => [I n], dom := fun _ => True, res := fun n _ => B (decide (-2147483648 ≤ n ∧ n ≤ 2147483647)) }
theorem f_Fits_ok : CtrSound Try.prog 21 f_Fits :=
  ctr_of_ax (env_ok tys_ok (eqs := []) trivial (cs := []) trivial) mixed _ Try.func21 (by kernel_rfl) rfl (fun _ _ => Nat.le_of_ble_eq_true rfl) fun (n : Int) id _ => by
    refine ⟨fun h => ?_, fun h => ?_⟩
    · exact ⟨.bool (by rw [decide_eq_decide]; have := of_decide_eq_true h; omega), rfl⟩
    · exact ⟨.bff (decide_eq_false (by have := of_decide_eq_false h; omega)), rfl⟩
def f_told : Ctr := { A := Int, enc := fun n => [I n], dom := fun n => -2147483648 ≤ n ∧ n ≤ 2147483647, res := fun n _ => .tup [I n, .tt] }
theorem f_told_ok : CtrSound Try.prog 41 f_told :=
  ctr_of_ax (env_ok tys_ok (eqs := []) trivial (cs := [(21, f_Fits)]) ⟨f_Fits_ok, trivial⟩) mixed _ Try.func41 (by kernel_rfl) rfl (fun _ _ => Nat.le_of_ble_eq_true rfl) fun (n : Int) id hd => by
    refine ⟨n, ⟨.refl _, trivial⟩, rfl, trivial, fun h => ?_, fun h => ?_⟩
    · exact absurd (show -2147483648 ≤ n ∧ n ≤ 2147483647 from hd) (of_decide_eq_false (ynot h))
    · exact ⟨.refl _, rfl⟩
def f_Div : Ctr := { A := Int × Int, enc := fun x => [I x.1, I x.2], dom := fun x => (-2147483648 ≤ x.1 ∧ x.1 ≤ 2147483647) ∧ (-2147483648 ≤ x.2 ∧ x.2 ≤ 2147483647) ∧ ¬ (-1 ≤ x.2 ∧ x.2 ≤ 1), res := fun x _ => .tup [I (x.1.tdiv x.2), .tt] }
theorem tdiv_fit {a b : Int} (h : -2147483648 ≤ a ∧ a ≤ 2147483647) (h0 : ¬ (-1 ≤ b ∧ b ≤ 1)) : -2147483647 ≤ a.tdiv b ∧ a.tdiv b ≤ 2147483647 := by
  have h1 := Int.natAbs_tdiv a b
  have h2 : a.natAbs / b.natAbs ≤ a.natAbs / 2 := Nat.div_le_div_left (by omega) (by omega)
  have h3 : (a.tdiv b).natAbs = a.natAbs / b.natAbs := h1
  omega
theorem f_Div_ok : CtrSound Try.prog 23 f_Div :=
  ctr_of_ax (env_ok tys_ok (eqs := []) trivial (cs := [(21, f_Fits), (41, f_told)]) ⟨f_Fits_ok, f_told_ok, trivial⟩) mixed _ Try.func23 (by kernel_rfl) rfl (fun _ _ => Nat.le_of_ble_eq_true rfl) fun ((a, b) : Int × Int) id hd => by
    have hd : (-2147483648 ≤ a ∧ a ≤ 2147483647) ∧ (-2147483648 ≤ b ∧ b ≤ 2147483647) ∧ ¬ (-1 ≤ b ∧ b ≤ 1) := hd
    have hq := tdiv_fit hd.1 hd.2.2
    have hw : IntKind.i64.wrap (a.tdiv b) = a.tdiv b := wrap_eq _ (by omega) (by omega)
    refine ⟨a, ⟨.refl _, trivial⟩, rfl, trivial, fun h => ?_, fun h => ?_⟩
    · exact absurd hd.1 (of_decide_eq_false (ynot h))
    refine ⟨b, ⟨.refl _, trivial⟩, rfl, trivial, fun h => ?_, fun h => ?_⟩
    · exact absurd hd.2.1 (of_decide_eq_false (ynot h))
    have hb : b ≠ 0 := by omega
    refine ⟨fun h => ?_, fun h => ?_⟩
    · exact absurd (eq_of_beq h) hb
    refine ⟨hb, ?_⟩
    refine ⟨a.tdiv b, ⟨.int hw, trivial⟩, rfl, (show -2147483648 ≤ a.tdiv b ∧ a.tdiv b ≤ 2147483647 by omega), ?_⟩
    exact ⟨.refl _, rfl⟩
def f_K : Ctr := term_K
theorem f_K_ok : CtrSound Try.prog 20 f_K :=
  ctr_of_ax (env_ok tys_ok (eqs := []) trivial (cs := []) trivial) mixed _ Try.func20 (by kernel_rfl) rfl (fun _ _ => Nat.le_of_ble_eq_true rfl) fun (((c, l), v) : (Int × List (Int × Int)) × Int) id hd => by
    have hd : l.length ≤ 1000000000 := hd
    refine ⟨Nat, fun i => [(1, I v), (2, .box 2 0), (5, I i)], fun _ => [(2, [I c, monos l])],
      fun i => i ≤ l.length ∧ kF (l.drop i) v = kF l v, fun i => l.length - i, ⟨0, ⟨Nat.zero_le _, rfl⟩, ⟨⟨rfl, rfl⟩, .refl _, .refl _, .refl _, ⟨.refl _, .refl _, trivial⟩, trivial⟩⟩, fun (i : Nat) hi => ?_⟩
    have hil := hi.1
    have hk := hi.2
    have hwj : IntKind.i64.wrap ((i : Int) + 1) = ((i + 1 : Nat) : Int) := by rw [wrap_eq _ (by omega) (by omega)]; omega
    refine ⟨fun h => ?_, fun h => ?_⟩
    · have hlt : i < l.length := by have := of_decide_eq_true h; omega
      rw [drop_at (0, 0) l i hlt] at hk
      refine ⟨⟨by omega, by omega⟩, ?_⟩
      refine ⟨fun h => ?_, fun h => ?_⟩
      · have e : (l.getD i (0, 0)).1 = v := eq_of_beq h
        refine ⟨⟨by omega, by omega⟩, ?_⟩
        exact ⟨.int (by rw [← hk, kF, if_pos e]; rfl), rfl⟩
      · have e : (l.getD i (0, 0)).1 ≠ v := fun c => by have h' : ((l.getD i (0, 0)).1 == v) = false := h; rw [c] at h'; simp at h'
        rw [kF, if_neg e] at hk
        exact ⟨i + 1, ⟨hlt, hk⟩, by show l.length - (i + 1) < l.length - i; omega, ⟨rfl, rfl⟩, .refl _, .int hwj, .refl _, ⟨.refl _, .refl _, trivial⟩, trivial⟩
    · have hge : i = l.length := by have := of_decide_eq_false h; omega
      subst hge
      rw [List.drop_length] at hk
      exact ⟨.int (by rw [← hk]; rfl), rfl⟩
theorem kF0_no : ∀ (l : List (Int × Int)) (lo u : Int), ord lo l → kF l u = 0 → ∀ m ∈ l, m.1 ≠ u
  | [], _, _, _, _ => by simp
  | a :: r, lo, u, h, hk => by
    obtain ⟨h1, h2, h3, h4, h5, h6⟩ := h
    rw [kF] at hk
    have ha : a.1 ≠ u := fun e => h3 (by rw [if_pos e] at hk; exact hk)
    rw [if_neg ha] at hk
    intro m hm
    rcases List.mem_cons.1 hm with rfl | hm
    · exact ha
    · exact kF0_no r a.1 u h6 hk m hm
theorem dot_set (v : List Int) (i : Nat) (q : Int) : ∀ (l : List (Int × Int)), (∀ m ∈ l, m.1.toNat ≠ i) → dot (v.set i q) l = dot v l
  | [], _ => rfl
  | a :: r, h => by
    have ha := h a List.mem_cons_self
    rw [dot, dot, dot_set v i q r fun m hm => h m (List.mem_cons_of_mem _ hm)]
    congr 2
    simp [List.getD_eq_getElem?_getD, List.getElem?_set_ne (Ne.symm ha)]
theorem beyond_set (v : List Int) (i : Nat) (q : Int) : beyond_pred (v.set i q) = beyond_pred v := by
  funext m; simp [beyond_pred]
theorem wide_set {v : List Int} (i : Nat) {q : Int} (hv : v.any (wide_pred ()) = false) (hq : -2147483648 ≤ q ∧ q ≤ 2147483647) : (v.set i q).any (wide_pred ()) = false := by
  rw [List.any_eq_false] at hv ⊢
  intro x hx
  rcases List.mem_or_eq_of_mem_set hx with h | rfl
  · exact hv x h
  · simp [wide_pred]; omega
theorem okT_set {v : List Int} {t : Int × List (Int × Int)} {u : Int} (q : Int) (ht : okT v t) (hu : 0 ≤ u) (hk : kF t.2 u = 0) : okT (v.set u.toNat q) t ∧ valT (v.set u.toNat q) t = valT v t := by
  have o := ((right_iff t).1 ht.1).2.2
  have h := kF0_no t.2 _ u o hk
  refine ⟨⟨ht.1, by rw [beyond_set]; exact ht.2⟩, ?_⟩
  unfold valT
  rw [dot_set]
  intro m hm e
  have g : 0 ≤ m.1 := by
    obtain ⟨j, hj, rfl⟩ := List.getElem_of_mem hm
    have := (ht.1.2.2.2 j hj).1
    simpa [List.getD, hj] using this
  exact h m hm (by omega)
theorem quot_r {y : List Int} {t : Int × List (Int × Int)} {n u : Int} (ht : okT y t) (hn : -2147483648 ≤ n ∧ n ≤ 2147483647) (hu : 0 ≤ u ∧ u < 40) (hul : u < y.length) (hx : (qX u n).2 = 0) (hr : (qR t u n).2 = 0) : okT y (qR t u n).1 ∧ valT y (qR t u n).1 = valT y t - n * y.getD u.toNat 0 := by
  have e : varF u = ((0, [(u, 1)]), 0) := if_pos hu
  have hx' : (scaleF (varF u).1 (IntKind.i64.wrap (0 - n))).2 = 0 := hx
  have hr' : (addF t (qX u n).1).2 = 0 := hr
  have rx := (add_ok hr').2.1
  have hv : okT y (varF u).1 := ⟨(scale_ok hx').1, by rw [e]; simp [beyond_pred]; omega⟩
  obtain ⟨s1, s2⟩ := scale_val hx' hv rx
  obtain ⟨a1, a2⟩ := add_val hr' ht (show okT y (qX u n).1 from s1)
  refine ⟨a1, ?_⟩
  show valT y (addF t (qX u n).1).1 = _
  rw [a2, show valT y (qX u n).1 = IntKind.i64.wrap (0 - n) * valT y (varF u).1 from s2, wrap_eq _ (by omega) (by omega), e]
  simp only [valT, dot, Int.one_mul, Int.add_zero, Int.zero_add]
  rw [Int.zero_sub, Int.neg_mul]; omega
theorem quot_which {y : List Int} {t : Int × List (Int × Int)} {n u : Int} (h : (quotF t n u).2 = 0) (ht : okT y t) (hv : y.any (wide_pred ()) = false) (hu : 0 ≤ u ∧ u < 40) (hul : u < y.length) :
    whF y (quotF t n u).1 0 (-1) = if valT y t ≤ -1 ∧ valT y t - n * y.getD u.toNat 0 ≤ 0 ∧ 1 - qB n ≤ valT y t - n * y.getD u.toNat 0 then 0 else if 0 ≤ valT y t ∧ 0 ≤ valT y t - n * y.getD u.toNat 0 ∧ valT y t - n * y.getD u.toNat 0 ≤ qB n - 1 then 1 else -1 := by
  obtain ⟨e, ok, hx, hr, h⟩ := quot_eq h
  have hn : -2147483648 ≤ n ∧ n ≤ 2147483647 := ⟨ok.2.1, ok.2.2.1⟩
  obtain ⟨r1, r2⟩ := quot_r ht hn hu hul hx hr
  have hb : 2 ≤ qB n ∧ qB n ≤ 2147483648 := by
    have h0 := ok.2.2.2.1
    unfold qB
    rw [wrap_eq _ (by omega) (by omega)]
    split <;> omega
  have w1 : IntKind.i64.wrap (1 - qB n) = 1 - qB n := wrap_eq _ (by omega) (by omega)
  have w2 : IntKind.i64.wrap (qB n - 1) = qB n - 1 := wrap_eq _ (by omega) (by omega)
  unfold qE at h
  rw [w1, w2] at h
  obtain ⟨h, c6⟩ := room0 h
  obtain ⟨h, c5⟩ := room0 h
  obtain ⟨h, c4⟩ := room0 h
  obtain ⟨h, c3⟩ := room0 h
  obtain ⟨h, c2⟩ := room0 h
  obtain ⟨-, c1⟩ := room0 h
  rw [e]
  unfold qW
  rw [w1, w2]
  have W1 := wayH3 (mc_way ht hv (by omega) c1) (mc_way r1 hv (by omega) c2) (lc_way r1 hv c3)
  have W2 := wayH3 (lc_way ht hv c4) (lc_way r1 hv c5) (mc_way r1 hv (by omega) c6)
  rw [r2] at W1 W2
  generalize hR : valT y t - n * y.getD u.toNat 0 = R at *
  simp only [whF, W1, W2, ← Bool.decide_and]
  by_cases a : valT y t ≤ -1 ∧ R ≤ 0 ∧ 1 - qB n ≤ R
  · have b : ¬ (0 ≤ valT y t ∧ 0 ≤ R ∧ R ≤ qB n - 1) := by omega
    simp [a, b]
  · by_cases b : 0 ≤ valT y t ∧ 0 ≤ R ∧ R ≤ qB n - 1
    · simp [a, b]
    · simp [a, b]
theorem quot_hit {k n : Int} (h0 : ¬ (-1 ≤ n ∧ n ≤ 1)) (hn : -2147483648 ≤ n ∧ n ≤ 2147483647) : (k < 0 → k - n * k.tdiv n ≤ 0 ∧ 1 - qB n ≤ k - n * k.tdiv n) ∧ (0 ≤ k → 0 ≤ k - n * k.tdiv n ∧ k - n * k.tdiv n ≤ qB n - 1) ∧ qB n = n.natAbs := by
  have hb : qB n = n.natAbs := by
    unfold qB
    rw [wrap_eq _ (by omega) (by omega)]
    split <;> omega
  have h1 := Int.mul_tdiv_add_tmod k n
  have h2 := Int.natAbs_tmod k n
  have h3 : (k.tmod n).natAbs < n.natAbs := by rw [h2]; exact Nat.mod_lt _ (by omega)
  have e : k - n * k.tdiv n = k.tmod n := by omega
  rw [e, hb]
  refine ⟨fun h => ?_, fun h => ?_, rfl⟩
  · have h4 := Int.tmod_nonneg n (show 0 ≤ -k by omega)
    rw [Int.neg_tmod] at h4
    omega
  · have h4 := Int.tmod_nonneg n h
    omega
theorem quot_miss {k n o : Int} (h0 : ¬ (-1 ≤ n ∧ n ≤ 1)) (hn : -2147483648 ≤ n ∧ n ≤ 2147483647) (ho : o ≠ 0) : ¬ (k ≤ -1 ∧ k - n * (k.tdiv n + o) ≤ 0 ∧ 1 - qB n ≤ k - n * (k.tdiv n + o)) ∧ ¬ (0 ≤ k ∧ 0 ≤ k - n * (k.tdiv n + o) ∧ k - n * (k.tdiv n + o) ≤ qB n - 1) := by
  obtain ⟨a1, a2, a3⟩ := quot_hit (k := k) h0 hn
  rw [a3] at a1 a2 ⊢
  have hm : n.natAbs ≤ (n * o).natAbs := by rw [Int.natAbs_mul]; exact Nat.le_mul_of_pos_right _ (by omega)
  rw [Int.mul_add]
  generalize n * o = p at *
  generalize n * k.tdiv n = q at *
  omega
theorem quot_0c {t : Int × List (Int × Int)} {n u : Int} (h : quotOk t n u) : (quotF t n u).2 = 0 ∨ (quotF t n u).2 = 12 := by
  unfold quotF
  rw [if_pos h]
  split
  · exact told_0c _ _ (room_0c _ _ (room_0c _ _ (room_0c _ _ (room_0c _ _ (room_0c _ _ (room_0c _ _ (.inl rfl)))))))
  · exact .inr rfl
theorem quot_two {t : Int × List (Int × Int)} {n u : Int} (h : (quotF t n u).2 = 0) : (quotF t n u).1.length = 2 := by rw [(quot_eq h).1]; rfl
theorem quot_dom {y : List Int} {t : Int × List (Int × Int)} {n u : Int} (h : (quotF t n u).2 = 0) (hy : y.length ≤ 4611686018427387904) : f_which.dom ((quotF t n u).1, y) := by
  rw [(quot_eq h).1]
  refine ⟨by show (2 : Nat) ≤ 1000000; omega, fun w hw => ?_, hy⟩
  unfold qW at hw
  simp only [List.mem_cons, List.not_mem_nil, or_false] at hw
  rcases hw with rfl | rfl <;> simp
def intM (l : List Int) : SV := .many Int 1 (fun n => [I n]) 0 l
def f_Twin : CtrB := { A := List Int, enc := fun l => [ints l], pre := fun _ => [], dom := fun l => l.length ≤ 1000, res := fun l _ => .arr 1000 1 0 l.length none, post := fun l _ => [[intM l]] }
theorem f_Twin_ok : CtrBSound Try.prog 24 f_Twin :=
  ctrB_of_ax2 mixed _ Try.func24 (by kernel_rfl) rfl (fun _ _ => ⟨Nat.le_of_ble_eq_true rfl, Nat.le_of_ble_eq_true rfl⟩) fun (l : List Int) id hd => by
    have hd : l.length ≤ 1000 := hd
    refine ⟨_, ⟨env_okB tys_ok (eqs := []) trivial (cs := []) trivial (bs := []) trivial (vec := [6]), fun _ h => h⟩, ?_⟩
    refine ⟨Int, fun n => [I n], 0, l, ⟨.nil0, .refl _⟩, fun _ => ⟨rfl, rfl, rfl⟩, (show l.length * 8 ≤ 140737488355328 by omega), ?_⟩
    exact ⟨.refl _, rfl, .refl _, trivial⟩
theorem mod1000 (k : Int) : -1000 ≤ k.tmod 1000 ∧ k.tmod 1000 ≤ 1000 := by
  have h1 := Int.natAbs_tmod k 1000
  have h2 : k.natAbs % 1000 < 1000 := Nat.mod_lt _ (by omega)
  have h3 : (k.tmod 1000).natAbs = k.natAbs % 1000 := by rw [h1]; rfl
  omega
theorem bb {b : Bool} (h : b = true) (h2 : b = false) : False := by rw [h] at h2; cases h2
theorem k0 {x : Int} (h : (x != 0) = true) (h2 : (x != 0) = false) : False := by rw [h] at h2; cases h2
def ForkQuot : Ctr := { A := (Int × List (Int × Int)) × Int × Int × Int × List Int, enc := fun x => [termS x.1, I x.2.1, I x.2.2.1, I x.2.2.2.1, ints x.2.2.2.2], dom := fun _ => True, res := fun _ _ => .tt }
set_option maxRecDepth 100000 in
set_option maxHeartbeats 8000000 in
theorem ForkQuot_ok : CtrSound Try.prog 6 ForkQuot :=
  ctr_of_ax (env_okB tys_ok (eqs := []) trivial (cs := [(7, Heavy13), (16, ref_Told), (19, term_K), (20, f_K), (17, term_Value), (21, f_Fits), (8, ref_Right), (22, ref_Value), (13, fk_Quot), (23, f_Div), (18, f_which), (15, wakes20)]) ⟨Heavy13_ok, ref_Told_ok, term_K_ok, f_K_ok, term_Value_ok, f_Fits_ok, ref_Right_ok, ref_Value_ok, fk_Quot_ok, f_Div_ok, f_which_ok, wakes20_ok, trivial⟩ (bs := [(24, f_Twin)]) ⟨f_Twin_ok, trivial⟩ (cut := [3, 6, 13])) mixed _ Try.func6 (by kernel_rfl) rfl (fun _ _ => Nat.le_of_ble_eq_true rfl) fun ((t, n, u, o, v) : (Int × List (Int × Int)) × Int × Int × Int × List Int) id hd => by
    refine ⟨Unit, fun _ => [(1, I n), (2, I u), (3, I o), (4, ints v), (5, .box 5 0)], fun _ => [(5, termC t)], fun _ => (t.2.length ≤ 60 ∧ v.length ≤ 60) ∧ (0 ≤ u ∧ u < 40 ∧ u < v.length) ∧ (valueF t v).2 = 0 ∧ kF t.2 u = 0, ?_, fun _ hf => ?_⟩
    · refine ⟨t, ⟨.refl _, trivial⟩, rfl, trivial, ?_⟩
      refine ⟨?_, ?_⟩
      · skip
        intro h -- decide (t.snd.length > 60) = true
        exact ⟨.refl _, rfl⟩
      · skip
        intro h -- decide (t.snd.length > 60) = false
        refine ⟨?_, ?_⟩
        · skip
          intro h -- decide (↑(t, n, u, o, v).snd.snd.snd.snd.length > 60) = true
          dsimp only at h
          exact ⟨.refl _, rfl⟩
        · skip
          intro h -- decide (↑(t, n, u, o, v).snd.snd.snd.snd.length > 60) = false
          dsimp only at h
          refine ⟨?_, ?_⟩
          · skip
            intro h -- decide ((t, n, u, o, v).snd.snd.fst < 0) = true
            dsimp only at h
            exact ⟨.refl _, rfl⟩
          · skip
            intro h -- decide ((t, n, u, o, v).snd.snd.fst < 0) = false
            dsimp only at h
            refine ⟨?_, ?_⟩
            · skip
              intro h -- decide ((t, n, u, o, v).snd.snd.fst ≥ ↑(t, n, u, o, v).snd.snd.snd.snd.length) = true
              dsimp only at h
              exact ⟨.refl _, rfl⟩
            · skip
              intro h -- decide ((t, n, u, o, v).snd.snd.fst ≥ ↑(t, n, u, o, v).snd.snd.snd.snd.length) = false
              dsimp only at h
              refine ⟨?_, ?_⟩
              · skip
                intro h -- decide ((t, n, u, o, v).snd.snd.fst ≥ 40) = true
                dsimp only at h
                exact ⟨.refl _, rfl⟩
              · skip
                intro h -- decide ((t, n, u, o, v).snd.snd.fst ≥ 40) = false
                dsimp only at h
                refine ⟨(t, v), ⟨.refl _, .refl _, trivial⟩, rfl, (show v.length ≤ 4611686018427387904 by have := of_decide_eq_false ‹decide ((v.length : Int) > 60) = false›; omega), ?_⟩
                refine ⟨?_, ?_⟩
                · skip
                  intro h -- ((valueF (t, v).fst (t, v).snd).snd != 0) = true
                  dsimp only at h
                  exact ⟨.refl _, rfl⟩
                · skip
                  intro h -- ((valueF (t, v).fst (t, v).snd).snd != 0) = false
                  dsimp only at h
                  refine ⟨(t, u), ⟨.refl _, .refl _, trivial⟩, rfl, (show t.2.length ≤ 1000000000 by have := of_decide_eq_false ‹decide (t.2.length > 60) = false›; omega), ?_⟩
                  refine ⟨?_, ?_⟩
                  · skip
                    intro h -- (kF (t, u).fst.snd (t, u).snd != 0) = true
                    dsimp only at h
                    refine ⟨(t, u), ⟨.refl _, .refl _, trivial⟩, rfl, (show t.2.length ≤ 1000000000 by have := of_decide_eq_false ‹decide (t.2.length > 60) = false›; omega), ?_⟩
                    refine ⟨?_, ?_⟩
                    · skip
                      intro h -- (kF (t, u).fst.snd (t, u).snd != 0) = true
                      dsimp only at h
                      exact ⟨.refl _, rfl⟩
                    · skip
                      intro h -- (kF (t, u).fst.snd (t, u).snd != 0) = false
                      dsimp only at h
                      (exact (k0 ‹_› h).elim)
                  · skip
                    intro h -- (kF (t, u).fst.snd (t, u).snd != 0) = false
                    dsimp only at h
                    exact ⟨(), ⟨⟨by have := of_decide_eq_false ‹decide (t.2.length > 60) = false›; omega, by have := of_decide_eq_false ‹decide ((v.length : Int) > 60) = false›; omega⟩, ⟨by have := of_decide_eq_false ‹decide (u < 0) = false›; omega, by have := of_decide_eq_false ‹decide (u ≥ 40) = false›; omega, by have := of_decide_eq_false ‹decide (u ≥ (v.length : Int)) = false›; omega⟩, eqz ‹((valueF t v).2 != 0) = false›, eqz ‹(kF t.2 u != 0) = false›⟩, ⟨rfl, rfl⟩, .refl _, .refl _, .refl _, .refl _, .refl _, ⟨.refl _, .refl _, trivial⟩, trivial⟩
    obtain ⟨⟨f1, f2⟩, ⟨f3, f4, f5⟩, f6, f7⟩ := hf
    have hT := value_told f6
    have hlb : v.length ≤ 4611686018427387904 := by omega
    have hK1 : (valueF t v).1 = valT v t := by rw [hT.2.2.2]; rfl
    refine ⟨(t, v), ⟨.refl _, .refl _, trivial⟩, rfl, hlb, ?_⟩
    refine ⟨Unit, fun _ => [(1, I n), (2, I u), (3, I o), (4, ints v), (5, .box 5 0), (11, I (valueF t v).1)], fun _ => [(5, termC t)], fun _ => (-2147483648 ≤ n ∧ n ≤ 2147483647) ∧ ¬ (-1 ≤ n ∧ n ≤ 1) ∧ (-2147483648 ≤ (valueF t v).1 ∧ (valueF t v).1 ≤ 2147483647), ?_, fun _ hg => ?_⟩
    · refine ⟨?_, ?_⟩
      · skip
        intro h -- ((valueF (t, v).fst (t, v).snd).snd != 0) = true
        dsimp only at h
        (exact (k0 h (by rw [f6]; rfl)).elim)
      · skip
        intro h -- ((valueF (t, v).fst (t, v).snd).snd != 0) = false
        dsimp only at h
        refine ⟨?_, ?_⟩
        · skip
          intro h -- decide (n < -2147483648) = true
          refine ⟨(t, v), ⟨.refl _, .refl _, trivial⟩, rfl, f6, ?_⟩
          refine ⟨?_, ?_⟩
          · skip
            intro h -- decide ((valueF (t, v).fst (t, v).snd).fst < -2147483648) = true
            dsimp only at h
            exact ⟨.refl _, rfl⟩
          · skip
            intro h -- decide ((valueF (t, v).fst (t, v).snd).fst < -2147483648) = false
            dsimp only at h
            refine ⟨(t, v), ⟨.refl _, .refl _, trivial⟩, rfl, f6, ?_⟩
            refine ⟨?_, ?_⟩
            · skip
              intro h -- decide ((valueF (t, v).fst (t, v).snd).fst > 2147483647) = true
              dsimp only at h
              exact ⟨.refl _, rfl⟩
            · skip
              intro h -- decide ((valueF (t, v).fst (t, v).snd).fst > 2147483647) = false
              dsimp only at h
              refine ⟨?_, ?_⟩
              · skip
                intro h -- decide (n < -2147483648) = true
                exact ⟨.refl _, rfl⟩
              · skip
                intro h -- decide (n < -2147483648) = false
                (exact (bb ‹_› h).elim)
        · skip
          intro h -- decide (n < -2147483648) = false
          refine ⟨?_, ?_⟩
          · skip
            intro h -- decide (n > 2147483647) = true
            refine ⟨(t, v), ⟨.refl _, .refl _, trivial⟩, rfl, f6, ?_⟩
            refine ⟨?_, ?_⟩
            · skip
              intro h -- decide ((valueF (t, v).fst (t, v).snd).fst < -2147483648) = true
              dsimp only at h
              exact ⟨.refl _, rfl⟩
            · skip
              intro h -- decide ((valueF (t, v).fst (t, v).snd).fst < -2147483648) = false
              dsimp only at h
              refine ⟨(t, v), ⟨.refl _, .refl _, trivial⟩, rfl, f6, ?_⟩
              refine ⟨?_, ?_⟩
              · skip
                intro h -- decide ((valueF (t, v).fst (t, v).snd).fst > 2147483647) = true
                dsimp only at h
                exact ⟨.refl _, rfl⟩
              · skip
                intro h -- decide ((valueF (t, v).fst (t, v).snd).fst > 2147483647) = false
                dsimp only at h
                refine ⟨?_, ?_⟩
                · skip
                  intro h -- decide (n < -2147483648) = true
                  (exact (bb h ‹_›).elim)
                · skip
                  intro h -- decide (n < -2147483648) = false
                  refine ⟨?_, ?_⟩
                  · skip
                    intro h -- decide (n > 2147483647) = true
                    exact ⟨.refl _, rfl⟩
                  · skip
                    intro h -- decide (n > 2147483647) = false
                    (exact (bb ‹_› h).elim)
          · skip
            intro h -- decide (n > 2147483647) = false
            refine ⟨?_, ?_⟩
            · skip
              intro h -- decide (n ≥ -1) = true
              refine ⟨?_, ?_⟩
              · skip
                intro h -- decide (n ≤ 1) = true
                refine ⟨(t, v), ⟨.refl _, .refl _, trivial⟩, rfl, f6, ?_⟩
                refine ⟨?_, ?_⟩
                · skip
                  intro h -- decide ((valueF (t, v).fst (t, v).snd).fst < -2147483648) = true
                  dsimp only at h
                  exact ⟨.refl _, rfl⟩
                · skip
                  intro h -- decide ((valueF (t, v).fst (t, v).snd).fst < -2147483648) = false
                  dsimp only at h
                  refine ⟨(t, v), ⟨.refl _, .refl _, trivial⟩, rfl, f6, ?_⟩
                  refine ⟨?_, ?_⟩
                  · skip
                    intro h -- decide ((valueF (t, v).fst (t, v).snd).fst > 2147483647) = true
                    dsimp only at h
                    exact ⟨.refl _, rfl⟩
                  · skip
                    intro h -- decide ((valueF (t, v).fst (t, v).snd).fst > 2147483647) = false
                    dsimp only at h
                    refine ⟨?_, ?_⟩
                    · skip
                      intro h -- decide (n < -2147483648) = true
                      (exact (bb h ‹_›).elim)
                    · skip
                      intro h -- decide (n < -2147483648) = false
                      refine ⟨?_, ?_⟩
                      · skip
                        intro h -- decide (n > 2147483647) = true
                        (exact (bb h ‹_›).elim)
                      · skip
                        intro h -- decide (n > 2147483647) = false
                        refine ⟨?_, ?_⟩
                        · skip
                          intro h -- decide (n ≥ -1) = true
                          exact ⟨.toTT ‹decide (n ≤ 1) = true›, rfl⟩
                        · skip
                          intro h -- decide (n ≥ -1) = false
                          (exact (bb ‹_› h).elim)
              · skip
                intro h -- decide (n ≤ 1) = false
                refine ⟨(valueF t v).1, ⟨.refl _, trivial⟩, rfl, trivial, ?_⟩
                refine ⟨?_, ?_⟩
                · skip
                  intro h -- (!decide (-2147483648 ≤ (valueF t v).fst ∧ (valueF t v).fst ≤ 2147483647)) = true
                  refine ⟨(t, v), ⟨.refl _, .refl _, trivial⟩, rfl, f6, ?_⟩
                  refine ⟨?_, ?_⟩
                  · skip
                    intro h -- decide ((valueF (t, v).fst (t, v).snd).fst < -2147483648) = true
                    dsimp only at h
                    exact ⟨.refl _, rfl⟩
                  · skip
                    intro h -- decide ((valueF (t, v).fst (t, v).snd).fst < -2147483648) = false
                    dsimp only at h
                    refine ⟨(t, v), ⟨.refl _, .refl _, trivial⟩, rfl, f6, ?_⟩
                    refine ⟨?_, ?_⟩
                    · skip
                      intro h -- decide ((valueF (t, v).fst (t, v).snd).fst > 2147483647) = true
                      dsimp only at h
                      exact ⟨.refl _, rfl⟩
                    · skip
                      intro h -- decide ((valueF (t, v).fst (t, v).snd).fst > 2147483647) = false
                      dsimp only at h
                      (have h1 := of_decide_eq_false (ynot ‹(!decide (-2147483648 ≤ (valueF t v).1 ∧ (valueF t v).1 ≤ 2147483647)) = true›); have h2 := of_decide_eq_false ‹decide ((valueF t v).1 < -2147483648) = false›; have h3 := of_decide_eq_false h; omega)
                · skip
                  intro h -- (!decide (-2147483648 ≤ (valueF t v).fst ∧ (valueF t v).fst ≤ 2147483647)) = false
                  refine ⟨t, ⟨.refl _, trivial⟩, rfl, trivial, ?_⟩
                  refine ⟨?_, ?_⟩
                  · skip
                    intro h -- (!decide (right t)) = true
                    (exact absurd hT.1 (of_decide_eq_false (ynot h)))
                  · skip
                    intro h -- (!decide (right t)) = false
                    exact ⟨(), ⟨⟨by have := of_decide_eq_false ‹decide (n < -2147483648) = false›; omega, by have := of_decide_eq_false ‹decide (n > 2147483647) = false›; omega⟩, (by first | (have := of_decide_eq_false ‹decide (n ≥ -1) = false›; omega) | (have := of_decide_eq_false ‹decide (n ≤ 1) = false›; omega)), of_decide_eq_true (nnot ‹(!decide (-2147483648 ≤ (valueF t v).1 ∧ (valueF t v).1 ≤ 2147483647)) = false›)⟩, ⟨rfl, rfl⟩, .refl _, .refl _, .refl _, .refl _, .refl _, .refl _, ⟨.refl _, .refl _, trivial⟩, trivial⟩
            · skip
              intro h -- decide (n ≥ -1) = false
              refine ⟨(valueF t v).1, ⟨.refl _, trivial⟩, rfl, trivial, ?_⟩
              refine ⟨?_, ?_⟩
              · skip
                intro h -- (!decide (-2147483648 ≤ (valueF t v).fst ∧ (valueF t v).fst ≤ 2147483647)) = true
                refine ⟨(t, v), ⟨.refl _, .refl _, trivial⟩, rfl, f6, ?_⟩
                refine ⟨?_, ?_⟩
                · skip
                  intro h -- decide ((valueF (t, v).fst (t, v).snd).fst < -2147483648) = true
                  dsimp only at h
                  exact ⟨.refl _, rfl⟩
                · skip
                  intro h -- decide ((valueF (t, v).fst (t, v).snd).fst < -2147483648) = false
                  dsimp only at h
                  refine ⟨(t, v), ⟨.refl _, .refl _, trivial⟩, rfl, f6, ?_⟩
                  refine ⟨?_, ?_⟩
                  · skip
                    intro h -- decide ((valueF (t, v).fst (t, v).snd).fst > 2147483647) = true
                    dsimp only at h
                    exact ⟨.refl _, rfl⟩
                  · skip
                    intro h -- decide ((valueF (t, v).fst (t, v).snd).fst > 2147483647) = false
                    dsimp only at h
                    (have h1 := of_decide_eq_false (ynot ‹(!decide (-2147483648 ≤ (valueF t v).1 ∧ (valueF t v).1 ≤ 2147483647)) = true›); have h2 := of_decide_eq_false ‹decide ((valueF t v).1 < -2147483648) = false›; have h3 := of_decide_eq_false h; omega)
              · skip
                intro h -- (!decide (-2147483648 ≤ (valueF t v).fst ∧ (valueF t v).fst ≤ 2147483647)) = false
                refine ⟨t, ⟨.refl _, trivial⟩, rfl, trivial, ?_⟩
                refine ⟨?_, ?_⟩
                · skip
                  intro h -- (!decide (right t)) = true
                  (exact absurd hT.1 (of_decide_eq_false (ynot h)))
                · skip
                  intro h -- (!decide (right t)) = false
                  exact ⟨(), ⟨⟨by have := of_decide_eq_false ‹decide (n < -2147483648) = false›; omega, by have := of_decide_eq_false ‹decide (n > 2147483647) = false›; omega⟩, (by first | (have := of_decide_eq_false ‹decide (n ≥ -1) = false›; omega) | (have := of_decide_eq_false ‹decide (n ≤ 1) = false›; omega)), of_decide_eq_true (nnot ‹(!decide (-2147483648 ≤ (valueF t v).1 ∧ (valueF t v).1 ≤ 2147483647)) = false›)⟩, ⟨rfl, rfl⟩, .refl _, .refl _, .refl _, .refl _, .refl _, .refl _, ⟨.refl _, .refl _, trivial⟩, trivial⟩
    obtain ⟨g1, g2, g3⟩ := hg
    have hq := tdiv_fit g3 g2
    have hok : quotOk t n u := ⟨hT.1, g1.1, g1.2, g2, by rw [show varF u = ((0, [(u, 1)]), 0) from if_pos ⟨f3, f4⟩]⟩
    have hz := quot_0c hok
    have hoT : okT v t := ⟨hT.1, hT.2.1⟩
    have ho := mod1000 o
    have yT : ∀ q, okT (v.set u.toNat q) t ∧ valT (v.set u.toNat q) t = (valueF t v).1 := fun q => by rw [hK1]; exact okT_set q hoT f3 f7
    have yW : ∀ q, (-2147483648 ≤ q ∧ q ≤ 2147483647) → (v.set u.toNat q).any (wide_pred ()) = false := fun q h => wide_set _ hT.2.2.1 h
    have yG : ∀ q, (v.set u.toNat q).getD u.toNat 0 = q := fun q => by simp [List.getD_eq_getElem?_getD, List.getElem?_set_self (show u.toNat < v.length by omega)]
    have yw : ∀ q, (-2147483648 ≤ q ∧ q ≤ 2147483647) → (quotF t n u).2 = 0 → whF (v.set u.toNat q) (quotF t n u).1 0 (-1) = if (valueF t v).1 ≤ -1 ∧ (valueF t v).1 - n * q ≤ 0 ∧ 1 - qB n ≤ (valueF t v).1 - n * q then 0 else if 0 ≤ (valueF t v).1 ∧ 0 ≤ (valueF t v).1 - n * q ∧ (valueF t v).1 - n * q ≤ qB n - 1 then 1 else -1 := fun q h1 h2 => by
      rw [quot_which h2 (yT q).1 (yW q h1) ⟨f3, f4⟩ (by rw [List.length_set]; exact f5), (yT q).2, yG]
    obtain ⟨a1, a2, a3⟩ := quot_hit (k := (valueF t v).1) g2 g1
    have hit0 : (quotF t n u).2 = 0 → decide ((valueF t v).1 < 0) = true → whF (v.set u.toNat ((valueF t v).1.tdiv n)) (quotF t n u).1 0 (-1) = 0 := fun h1 h2 => by
      have h2 := of_decide_eq_true h2
      have := a1 h2
      rw [yw _ (by omega) h1, if_pos ⟨by omega, this⟩]
    have hit1 : (quotF t n u).2 = 0 → decide ((valueF t v).1 < 0) = false → whF (v.set u.toNat ((valueF t v).1.tdiv n)) (quotF t n u).1 0 (-1) = 1 := fun h1 h2 => by
      have h2 := of_decide_eq_false h2
      have := a2 (by omega)
      rw [yw _ (by omega) h1, if_neg (by omega), if_pos ⟨by omega, this⟩]
    have miss : ∀ p : Int, p ≠ 0 → (-2147483648 ≤ (valueF t v).1.tdiv n + p ∧ (valueF t v).1.tdiv n + p ≤ 2147483647) → (quotF t n u).2 = 0 → whF (v.set u.toNat ((valueF t v).1.tdiv n + p)) (quotF t n u).1 0 (-1) = -1 := fun p h0 h1 h2 => by
      obtain ⟨m1, m2⟩ := quot_miss (k := (valueF t v).1) g2 g1 h0
      rw [yw _ h1 h2, if_neg m1, if_neg m2]
    have hw : IntKind.i64.wrap ((valueF t v).1.tdiv n + o.tmod 1000) = (valueF t v).1.tdiv n + o.tmod 1000 := wrap_eq _ (by omega) (by omega)
    refine ⟨(t, n, u), ⟨.refl _, .refl _, .refl _, trivial⟩, rfl, trivial, fun h1 => ?_, fun h1 => ?_⟩
    · refine ⟨(), trivial, rfl, trivial, ?_⟩
      exact ⟨.refl _, rfl⟩
    have h1 : (quotF t n u).2 = 0 := hz.resolve_right (by simpa using h1)
    have dom := fun q => quot_dom (y := v.set u.toNat q) h1 (by rw [List.length_set]; exact hlb)
    refine ⟨((valueF t v).1, n), ⟨.refl _, .refl _, trivial⟩, rfl, ⟨g3, g1, g2⟩, ?_⟩
    refine ⟨fun h => ?_, fun h => ?_⟩
    · exact (k0 h (by rw [h1]; rfl)).elim
    refine ⟨fun h => ?_, fun h => ?_⟩
    · rw [quot_two h1] at h; exact absurd h (by decide)
    refine ⟨Unit, fun _ => [(2, I u), (3, I o), (11, I (valueF t v).1), (13, waysR (quotF t n u).1), (15, I ((valueF t v).1.tdiv n)), (17, .arr 146 1 0 v.length none)], fun _ => [(146, [intM v])], fun _ => True, ?_, fun _ _ => ?_⟩
    · refine ⟨by kernel_rfl, ?_⟩
      refine ⟨v, ⟨.refl _, trivial⟩, trivial, (show v.length ≤ 1000 by omega), ?_⟩
      exact ⟨(), trivial, ⟨rfl, rfl⟩, .refl _, .refl _, .refl _, .refl _, .refl _, .refl _, ⟨.refl _, trivial⟩, trivial⟩
    refine ⟨⟨f3, f5⟩, ?_⟩
    refine ⟨⟨by omega, by omega⟩, ?_⟩
    refine ⟨(valueF t v).1.tdiv n, ⟨.refl _, trivial⟩, ?_⟩
    have missW : (o.tmod 1000 == 0) = false → decide (IntKind.i64.wrap ((valueF t v).1.tdiv n + o.tmod 1000) > 2147483647) = false → decide (IntKind.i64.wrap ((valueF t v).1.tdiv n + o.tmod 1000) < -2147483648) = false → whF (v.set u.toNat (IntKind.i64.wrap ((valueF t v).1.tdiv n + o.tmod 1000))) (quotF t n u).1 0 (-1) = -1 := fun c1 c2 c3 => by
      rw [hw] at c2 c3 ⊢
      have c2 := of_decide_eq_false c2
      have c3 := of_decide_eq_false c3
      exact miss _ (fun c => by rw [c] at c1; cases c1) ⟨by omega, by omega⟩ h1
    have eu : ((((0 : Nat) : Int) + u)).toNat = u.toNat := by omega
    have l1 : ∀ q : Int, ((v.set (((0 : Nat) : Int) + u).toNat q).drop 0).take v.length = v.set u.toNat q := fun q => by rw [eu, List.drop_zero, List.take_of_length_le (by rw [List.length_set]; exact Nat.le_refl _)]
    have l2 : ∀ q q' : Int, (((v.set (((0 : Nat) : Int) + u).toNat q).set (((0 : Nat) : Int) + u).toNat q').drop 0).take v.length = v.set u.toNat q' := fun q q' => by rw [eu, List.drop_zero, List.take_of_length_le (by rw [List.length_set, List.length_set]; exact Nat.le_refl _), List.set_set]
    have b1 : ∀ q : Int, 0 + v.length ≤ (v.set (((0 : Nat) : Int) + u).toNat q).length := fun q => by simp
    have b2 : ∀ q q' : Int, 0 + v.length ≤ ((v.set (((0 : Nat) : Int) + u).toNat q).set (((0 : Nat) : Int) + u).toNat q').length := fun q q' => by simp
    have b3 : ∀ q : Int, 0 ≤ (((0 : Nat) : Int) + u) ∧ (((0 : Nat) : Int) + u) < ((v.set (((0 : Nat) : Int) + u).toNat q).length : Int) := fun q => by simp; omega
    refine ⟨?_, ?_⟩
    · skip
      intro h -- decide ((valueF t v).fst < 0) = true
      refine ⟨?_, ?_⟩
      · exact b1 _
      · skip
        refine ⟨((quotF t n u).1, v.set u.toNat ((valueF t v).1.tdiv n)), ⟨.refl _, .rowEq (l1 _), trivial⟩, rfl, dom _, ?_⟩
        refine ⟨?_, ?_⟩
        · skip
          intro h -- (whF ((quotF t n u).fst, v.set u.toNat ((valueF t v).fst.tdiv n)).snd ((quotF t n u).fst, v.set u.toNat ((valueF t v).fst.tdiv n)).fst 0 (-1) != 0) = true
          dsimp only at h
          (rw [hit0 h1 ‹decide ((valueF t v).1 < 0) = true›] at h; exact absurd h (by decide))
        · skip
          intro h -- (whF ((quotF t n u).fst, v.set u.toNat ((valueF t v).fst.tdiv n)).snd ((quotF t n u).fst, v.set u.toNat ((valueF t v).fst.tdiv n)).fst 0 (-1) != 0) = false
          dsimp only at h
          refine ⟨?_, ?_⟩
          · skip
            intro h -- 1000 = 0
            (exact absurd h (by decide))
          · skip
            refine ⟨?_, ?_⟩
            · skip
              intro h -- (o.tmod 1000 == 0) = true
              refine ⟨(), trivial, rfl, trivial, ?_⟩
              exact ⟨.refl _, rfl⟩
            · skip
              intro h -- (o.tmod 1000 == 0) = false
              refine ⟨?_, ?_⟩
              · skip
                intro h -- decide (IntKind.i64.wrap ((valueF t v).fst.tdiv n + o.tmod 1000) > 2147483647) = true
                refine ⟨(), trivial, rfl, trivial, ?_⟩
                exact ⟨.refl _, rfl⟩
              · skip
                intro h -- decide (IntKind.i64.wrap ((valueF t v).fst.tdiv n + o.tmod 1000) > 2147483647) = false
                refine ⟨?_, ?_⟩
                · skip
                  intro h -- decide (IntKind.i64.wrap ((valueF t v).fst.tdiv n + o.tmod 1000) < -2147483648) = true
                  refine ⟨(), trivial, rfl, trivial, ?_⟩
                  exact ⟨.refl _, rfl⟩
                · skip
                  intro h -- decide (IntKind.i64.wrap ((valueF t v).fst.tdiv n + o.tmod 1000) < -2147483648) = false
                  refine ⟨?_, ?_⟩
                  · exact ⟨f3, f5⟩
                  · skip
                    refine ⟨?_, ?_⟩
                    · exact b3 _
                    · skip
                      refine ⟨IntKind.i64.wrap ((valueF t v).1.tdiv n + o.tmod 1000), ⟨.refl _, trivial⟩, ?_⟩
                      refine ⟨?_, ?_⟩
                      · exact b2 _ _
                      · skip
                        refine ⟨((quotF t n u).1, v.set u.toNat (IntKind.i64.wrap ((valueF t v).1.tdiv n + o.tmod 1000))), ⟨.refl _, .rowEq (l2 _ _), trivial⟩, rfl, dom _, ?_⟩
                        refine ⟨?_, ?_⟩
                        · skip
                          intro h -- (whF ((quotF t n u).fst, v.set u.toNat (IntKind.i64.wrap ((valueF t v).fst.tdiv n + o.tmod 1000))).snd ((quotF t n u).fst, v.set u.toNat (IntKind.i64.wrap ((val
                          dsimp only at h
                          refine ⟨(), trivial, rfl, trivial, ?_⟩
                          exact ⟨.refl _, rfl⟩
                        · skip
                          intro h -- (whF ((quotF t n u).fst, v.set u.toNat (IntKind.i64.wrap ((valueF t v).fst.tdiv n + o.tmod 1000))).snd ((quotF t n u).fst, v.set u.toNat (IntKind.i64.wrap ((val
                          dsimp only at h
                          (rw [missW ‹_› ‹_› ‹_›] at h; exact absurd h (by decide))
    · skip
      intro h -- decide ((valueF t v).fst < 0) = false
      refine ⟨?_, ?_⟩
      · exact b1 _
      · skip
        refine ⟨((quotF t n u).1, v.set u.toNat ((valueF t v).1.tdiv n)), ⟨.refl _, .rowEq (l1 _), trivial⟩, rfl, dom _, ?_⟩
        refine ⟨?_, ?_⟩
        · skip
          intro h -- (whF ((quotF t n u).fst, v.set u.toNat ((valueF t v).fst.tdiv n)).snd ((quotF t n u).fst, v.set u.toNat ((valueF t v).fst.tdiv n)).fst 0 (-1) != 1) = true
          dsimp only at h
          (rw [hit1 h1 ‹decide ((valueF t v).1 < 0) = false›] at h; exact absurd h (by decide))
        · skip
          intro h -- (whF ((quotF t n u).fst, v.set u.toNat ((valueF t v).fst.tdiv n)).snd ((quotF t n u).fst, v.set u.toNat ((valueF t v).fst.tdiv n)).fst 0 (-1) != 1) = false
          dsimp only at h
          refine ⟨?_, ?_⟩
          · skip
            intro h -- 1000 = 0
            (exact absurd h (by decide))
          · skip
            refine ⟨?_, ?_⟩
            · skip
              intro h -- (o.tmod 1000 == 0) = true
              refine ⟨(), trivial, rfl, trivial, ?_⟩
              exact ⟨.refl _, rfl⟩
            · skip
              intro h -- (o.tmod 1000 == 0) = false
              refine ⟨?_, ?_⟩
              · skip
                intro h -- decide (IntKind.i64.wrap ((valueF t v).fst.tdiv n + o.tmod 1000) > 2147483647) = true
                refine ⟨(), trivial, rfl, trivial, ?_⟩
                exact ⟨.refl _, rfl⟩
              · skip
                intro h -- decide (IntKind.i64.wrap ((valueF t v).fst.tdiv n + o.tmod 1000) > 2147483647) = false
                refine ⟨?_, ?_⟩
                · skip
                  intro h -- decide (IntKind.i64.wrap ((valueF t v).fst.tdiv n + o.tmod 1000) < -2147483648) = true
                  refine ⟨(), trivial, rfl, trivial, ?_⟩
                  exact ⟨.refl _, rfl⟩
                · skip
                  intro h -- decide (IntKind.i64.wrap ((valueF t v).fst.tdiv n + o.tmod 1000) < -2147483648) = false
                  refine ⟨?_, ?_⟩
                  · exact ⟨f3, f5⟩
                  · skip
                    refine ⟨?_, ?_⟩
                    · exact b3 _
                    · skip
                      refine ⟨IntKind.i64.wrap ((valueF t v).1.tdiv n + o.tmod 1000), ⟨.refl _, trivial⟩, ?_⟩
                      refine ⟨?_, ?_⟩
                      · exact b2 _ _
                      · skip
                        refine ⟨((quotF t n u).1, v.set u.toNat (IntKind.i64.wrap ((valueF t v).1.tdiv n + o.tmod 1000))), ⟨.refl _, .rowEq (l2 _ _), trivial⟩, rfl, dom _, ?_⟩
                        refine ⟨?_, ?_⟩
                        · skip
                          intro h -- (whF ((quotF t n u).fst, v.set u.toNat (IntKind.i64.wrap ((valueF t v).fst.tdiv n + o.tmod 1000))).snd ((quotF t n u).fst, v.set u.toNat (IntKind.i64.wrap ((val
                          dsimp only at h
                          refine ⟨(), trivial, rfl, trivial, ?_⟩
                          exact ⟨.refl _, rfl⟩
                        · skip
                          intro h -- (whF ((quotF t n u).fst, v.set u.toNat (IntKind.i64.wrap ((valueF t v).fst.tdiv n + o.tmod 1000))).snd ((quotF t n u).fst, v.set u.toNat (IntKind.i64.wrap ((val
                          dsimp only at h
                          (rw [missW ‹_› ‹_› ‹_›] at h; exact absurd h (by decide))
end Go.Proofs.Ytndndemnjmdanaa.Ax
