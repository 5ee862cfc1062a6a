/- Layer fork by the logic: ForkRight. -/
import Derived.Test.YtndndemnjmdanaaKd
set_option linter.unusedVariables false
set_option linter.unusedSimpArgs false
namespace Go.Proofs.Ytndndemnjmdanaa.Ax
open Go Go.RowKit
theorem addF_right (a b : Int × List (Int × Int)) : right (addF a b).1 := by
  unfold addF
  split
  · unfold fitsF
    split
    · assumption
    · exact (by decide : right (0, []))
  · exact (by decide : right (0, []))
theorem sum3_right (t : Int × List (Int × Int)) (k n : Int) : right (sum3 t k n).1 := addF_right _ _
def okW (w : List ((Int × List (Int × Int)) × Bool)) : Prop := w.length ≤ 2 ∧ ∀ c ∈ w, right c.1
def cntW : List ((Int × List (Int × Int)) × Bool) → Nat
  | [] => 0
  | c :: r => (if c.2 then 1 else 0) + cntW r
def cntL : List (List ((Int × List (Int × Int)) × Bool)) → Nat
  | [] => 0
  | w :: r => cntW w + cntL r
theorem cntL_app : ∀ a b, cntL (a ++ b) = cntL a + cntL b
  | [], b => by simp [cntL]
  | x :: a, b => by simp only [List.cons_append, cntL, cntL_app a b]; omega
theorem told_cases (e : Int) (l : List (List ((Int × List (Int × Int)) × Bool))) : (toldF e l).1 = l ∨ (toldF e l).1 = [] := by
  unfold toldF; split
  · exact .inl rfl
  · exact .inr rfl
theorem sign_cases (t : Int × List (Int × Int)) : (signF t).1 = [[mcF t (-1)], [icF t 0], [lcF t 1]] ∨ (signF t).1 = [] := by
  unfold signF; split
  · exact told_cases ..
  · exact .inr rfl
theorem fit_cases (t : Int × List (Int × Int)) : (fitF t).1 = [[mcF t 2147483647, lcF t (-2147483648)], [lcF t 2147483648], [mcF t (-2147483649)]] ∨ (fitF t).1 = [] := by
  unfold fitF; split
  · exact told_cases ..
  · exact .inr rfl
theorem index_cases (t : Int × List (Int × Int)) (n : Int) : (indexF t n).1 = idxL t n.toNat ++ [[lcF t n]] ∨ (indexF t n).1 = [] := by
  unfold indexF; split
  · exact told_cases ..
  · exact .inr rfl
theorem lc_right (t : Int × List (Int × Int)) (n : Int) : right (lcF t n).1 := sum3_right ..
theorem mc_right (t : Int × List (Int × Int)) (n : Int) : right (mcF t n).1 := sum3_right ..
theorem ic_right (t : Int × List (Int × Int)) (n : Int) : right (icF t n).1 := sum3_right ..
theorem okW1 {c : (Int × List (Int × Int)) × Bool} (h : right c.1) : okW [c] := ⟨by simp, fun d hd => by rw [List.mem_singleton.1 hd]; exact h⟩
theorem okW2 {c d : (Int × List (Int × Int)) × Bool} (h : right c.1) (h2 : right d.1) : okW [c, d] := ⟨by simp, fun x hx => by rcases List.mem_cons.1 hx with rfl | hx; exact h; rw [List.mem_singleton.1 hx]; exact h2⟩
theorem idxL_okW (t : Int × List (Int × Int)) : ∀ k, ∀ w ∈ idxL t k, okW w
  | 0, w, h => by rw [idxL, List.mem_singleton] at h; subst h; exact okW1 (mc_right ..)
  | k + 1, w, h => by
    rw [idxL, List.mem_append, List.mem_singleton] at h
    rcases h with h | rfl
    · exact idxL_okW t k w h
    · exact okW1 (ic_right ..)
theorem idxL_cnt (t : Int × List (Int × Int)) : ∀ k, cntL (idxL t k) = k
  | 0 => rfl
  | k + 1 => by rw [idxL, cntL_app, idxL_cnt t k]; rfl
def allL (t : Int × List (Int × Int)) (n : Int) := (([] ++ (signF t).1) ++ (fitF t).1) ++ (indexF t n).1
def wantN (t : Int × List (Int × Int)) (n : Int) : Nat := (if 0 < (signF t).1.length then 1 else 0) + (if 0 < (indexF t n).1.length then n.toNat else 0)
theorem allL_ok (t : Int × List (Int × Int)) (n : Int) : ∀ w ∈ allL t n, okW w := by
  intro w h
  unfold allL at h
  rw [List.nil_append, List.mem_append, List.mem_append] at h
  rcases h with (h | h) | h
  · rcases sign_cases t with e | e <;> rw [e] at h
    · simp only [List.mem_cons, List.not_mem_nil, or_false] at h
      rcases h with rfl | rfl | rfl
      · exact okW1 (mc_right ..)
      · exact okW1 (ic_right ..)
      · exact okW1 (lc_right ..)
    · cases h
  · rcases fit_cases t with e | e <;> rw [e] at h
    · simp only [List.mem_cons, List.not_mem_nil, or_false] at h
      rcases h with rfl | rfl | rfl
      · exact okW2 (mc_right ..) (lc_right ..)
      · exact okW1 (lc_right ..)
      · exact okW1 (mc_right ..)
    · cases h
  · rcases index_cases t n with e | e <;> rw [e] at h
    · rw [List.mem_append, List.mem_singleton] at h
      rcases h with h | rfl
      · exact idxL_okW _ _ _ h
      · exact okW1 (lc_right ..)
    · cases h
theorem allL_cnt (t : Int × List (Int × Int)) (n : Int) : cntL (allL t n) = wantN t n := by
  unfold allL wantN
  rw [List.nil_append, cntL_app, cntL_app]
  rcases sign_cases t with e | e <;> rcases fit_cases t with e2 | e2 <;> rcases index_cases t n with e3 | e3 <;> rw [e, e2, e3] <;> simp [cntL, cntW, mcF, icF, lcF, cntL_app, idxL_cnt, idxL_len]
theorem sign_len (t : Int × List (Int × Int)) : (signF t).1.length ≤ 3 := by rcases sign_cases t with e | e <;> rw [e] <;> simp
theorem fit_len (t : Int × List (Int × Int)) : (fitF t).1.length ≤ 3 := by rcases fit_cases t with e | e <;> rw [e] <;> simp
theorem index_len (t : Int × List (Int × Int)) (n : Int) (h : n ≤ 16) : (indexF t n).1.length ≤ 18 := by rcases index_cases t n with e | e <;> rw [e] <;> simp [idxL_len]; omega
def ForkRight : Ctr := { A := (Int × List (Int × Int)) × Int, enc := fun x => [termS x.1, I x.2], dom := fun _ => True, res := fun _ _ => .tt }
set_option maxRecDepth 100000 in
set_option maxHeartbeats 4000000 in
theorem ForkRight_ok : CtrSound Try.prog 4 ForkRight :=
  ctr_of_ax (env_ok tys_ok (eqs := []) trivial (cs := [(7, Heavy13), (8, ref_Right), (9, fk_Sign), (11, fk_Fit), (12, fk_Index), (15, wakes20)]) ⟨Heavy13_ok, ref_Right_ok, fk_Sign_ok, fk_Fit_ok, fk_Index_ok, wakes20_ok, trivial⟩) mixed _ Try.func4 (by kernel_rfl) rfl (fun _ _ => Nat.le_of_ble_eq_true rfl) fun ((t, n) : (Int × List (Int × Int)) × Int) id hd => by
    have hu := u17_in n
    have hal := allL_ok t (u17 n)
    have hac := allL_cnt t (u17 n)
    have hl1 := sign_len t
    have hl2 := fit_len t
    have hl3 := index_len t (u17 n) (by omega)
    have hll : (allL t (u17 n)).length ≤ 24 := by unfold allL; simp only [List.length_append, List.length_nil]; omega
    have hwn : wantN t (u17 n) ≤ 17 := by unfold wantN; split <;> split <;> omega
    refine ⟨t, ⟨.refl _, trivial⟩, rfl, trivial, fun h1 => ?_, fun h1 => ?_⟩
    · exact ⟨.refl _, rfl⟩
    refine ⟨t, ⟨.refl _, trivial⟩, rfl, trivial, fun h2 => ?_, fun h2 => ?_⟩
    · exact ⟨.refl _, rfl⟩
    refine ⟨by decide, ?_⟩
    refine ⟨t, ⟨.refl _, trivial⟩, rfl, trivial, ?_⟩
    refine ⟨t, ⟨.refl _, trivial⟩, rfl, trivial, ?_⟩
    refine ⟨(t, u17 n), ⟨.refl _, .refl _, trivial⟩, rfl, trivial, ?_⟩
    refine ⟨List ((Int × List (Int × Int)) × Bool), wayC, [], [], (signF t).1, 43, ⟨.e0O .., .refl _⟩, fun _ => rfl, (by simp only [List.length_nil]; omega), ?_⟩
    refine ⟨List ((Int × List (Int × Int)) × Bool), wayC, [], [] ++ (signF t).1, (fitF t).1, 45, ⟨.refl _, .refl _⟩, fun _ => rfl, (by simp only [List.length_append, List.length_nil]; omega), ?_⟩
    refine ⟨List ((Int × List (Int × Int)) × Bool), wayC, [], ([] ++ (signF t).1) ++ (fitF t).1, (indexF t (u17 n)).1, 47, ⟨.refl _, .refl _⟩, fun _ => rfl, (by simp only [List.length_append, List.length_nil]; omega), ?_⟩
    refine ⟨Nat × Nat, fun s => [(1, I (u17 n)), (5, waysR (signF t).1), (9, waysR (indexF t (u17 n)).1), (11, waysO (allL t (u17 n)) 49), (12, I s.2), (13, I s.1)], fun _ => [],
      fun s => s.1 ≤ (allL t (u17 n)).length ∧ s.2 + cntL ((allL t (u17 n)).drop s.1) = wantN t (u17 n), fun s => (allL t (u17 n)).length - s.1, ⟨(0, 0), ⟨Nat.zero_le _, by show 0 + cntL (allL t (u17 n)) = _; omega⟩, ⟨⟨rfl, rfl⟩, .refl _, .refl _, .refl _, .refl _, .refl _, .refl _, trivial⟩⟩, fun ((i, e) : Nat × Nat) hi => ?_⟩
    have hil : i ≤ (allL t (u17 n)).length := hi.1
    have hec : e + cntL ((allL t (u17 n)).drop i) = wantN t (u17 n) := hi.2
    have hwj : IntKind.i64.wrap ((i : Int) + 1) = ((i + 1 : Nat) : Int) := by rw [wrap_eq _ (by omega) (by omega)]; omega
    refine ⟨fun h => ?_, fun h => ?_⟩
    · have hlt : i < (allL t (u17 n)).length := by have := of_decide_eq_true h; omega
      have ho := hal _ (getD_mem (allL t (u17 n)) i [] hlt)
      rw [drop_at [] _ i hlt, cntL] at hec
      refine ⟨Nat × Nat, fun s => [(1, I (u17 n)), (5, waysR (signF t).1), (9, waysR (indexF t (u17 n)).1), (11, waysO (allL t (u17 n)) 49), (12, I s.2), (13, I i), (14, I s.1)], fun _ => [],
        fun s => s.1 ≤ ((allL t (u17 n)).getD i []).length ∧ s.2 + (cntW (((allL t (u17 n)).getD i []).drop s.1) + cntL ((allL t (u17 n)).drop (i + 1))) = wantN t (u17 n), fun s => ((allL t (u17 n)).getD i []).length - s.1, ⟨(0, e), ⟨Nat.zero_le _, hec⟩, ⟨⟨rfl, rfl⟩, .refl _, .refl _, .refl _, .refl _, .refl _, .refl _, .refl _, trivial⟩⟩, fun ((k, e) : Nat × Nat) hk => ?_⟩
      have hkl : k ≤ ((allL t (u17 n)).getD i []).length := hk.1
      have hkc : e + (cntW (((allL t (u17 n)).getD i []).drop k) + cntL ((allL t (u17 n)).drop (i + 1))) = wantN t (u17 n) := hk.2
      have hlen := ho.1
      have hwk : IntKind.i64.wrap ((k : Int) + 1) = ((k + 1 : Nat) : Int) := by rw [wrap_eq _ (by omega) (by omega)]; omega
      have hwe : IntKind.i64.wrap ((e : Int) + 1) = ((e + 1 : Nat) : Int) := by rw [wrap_eq _ (by omega) (by omega)]; omega
      refine ⟨⟨by omega, by omega⟩, ?_⟩
      refine ⟨fun h => ?_, fun h => ?_⟩
      · have hlt2 : k < ((allL t (u17 n)).getD i []).length := by have := of_decide_eq_true h; dsimp only [Int.toNat_natCast] at this; omega
        have hr := ho.2 _ (getD_mem ((allL t (u17 n)).getD i []) k ((0, []), false) hlt2)
        rw [drop_at ((0, []), false) _ k hlt2, cntW] at hkc
        refine ⟨⟨by omega, by omega⟩, ?_⟩
        refine ⟨⟨by omega, (by show (k : Int) < (((allL t (u17 n)).getD i []).length : Int); omega)⟩, ?_⟩
        refine ⟨(((allL t (u17 n)).getD i []).getD k ((0, []), false)).1, ⟨.refl _, trivial⟩, rfl, trivial, fun h3 => ?_, fun h3 => ?_⟩
        · exact absurd hr (of_decide_eq_false (ynot h3))
        refine ⟨⟨by omega, by omega⟩, ?_⟩
        refine ⟨⟨by omega, (by show (k : Int) < (((allL t (u17 n)).getD i []).length : Int); omega)⟩, ?_⟩
        refine ⟨fun h4 => ?_, fun h4 => ?_⟩
        · have h4 : (((allL t (u17 n)).getD i []).getD k ((0, []), false)).2 = true := h4
          rw [if_pos h4] at hkc
          exact ⟨(k + 1, e + 1), ⟨hlt2, by show e + 1 + (cntW (((allL t (u17 n)).getD i []).drop (k + 1)) + cntL ((allL t (u17 n)).drop (i + 1))) = wantN t (u17 n); omega⟩, (by show ((allL t (u17 n)).getD i []).length - (k + 1) < ((allL t (u17 n)).getD i []).length - k; omega), ⟨rfl, rfl⟩, .refl _, .refl _, .refl _, .refl _, .refl _, .int hwe, .int hwk, trivial⟩
        · have h4 : (((allL t (u17 n)).getD i []).getD k ((0, []), false)).2 = false := h4
          rw [if_neg (by rw [h4]; exact Bool.false_ne_true), Nat.zero_add] at hkc
          exact ⟨(k + 1, e), ⟨hlt2, hkc⟩, (by show ((allL t (u17 n)).getD i []).length - (k + 1) < ((allL t (u17 n)).getD i []).length - k; omega), ⟨rfl, rfl⟩, .refl _, .refl _, .refl _, .refl _, .refl _, .refl _, .int hwk, trivial⟩
      · have hge : k = ((allL t (u17 n)).getD i []).length := by have := of_decide_eq_false h; dsimp only [Int.toNat_natCast] at this; omega
        rw [hge, List.drop_length, cntW, Nat.zero_add] at hkc
        exact ⟨(i + 1, e), ⟨hlt, hkc⟩, (by show (allL t (u17 n)).length - (i + 1) < (allL t (u17 n)).length - i; omega), ⟨rfl, rfl⟩, .refl _, .refl _, .refl _, .refl _, .int hwj, .refl _, trivial⟩
    · have hge : i = (allL t (u17 n)).length := by have := of_decide_eq_false h; omega
      rw [hge, List.drop_length, cntL, Nat.add_zero] at hec
      have hw1 : IntKind.i64.wrap (0 + 1) = 1 := by decide
      have hw2 : IntKind.i64.wrap (1 + u17 n) = 1 + u17 n := wrap_eq _ (by omega) (by omega)
      have hw3 : IntKind.i64.wrap (0 + u17 n) = 0 + u17 n := wrap_eq _ (by omega) (by omega)
      have q : ∀ (a b : Bool), decide (((signF t).1.length : Int) > 0) = a → decide (((indexF t (u17 n)).1.length : Int) > 0) = b → (e : Int) = (if a then 1 else 0) + (if b then u17 n else 0) := fun a b h1 h2 => by
        have e1 : (0 < (signF t).1.length) = (a = true) := by rw [← h1, decide_eq_true_eq]; exact propext ⟨fun h => by omega, fun h => by omega⟩
        have e2 : (0 < (indexF t (u17 n)).1.length) = (b = true) := by rw [← h2, decide_eq_true_eq]; exact propext ⟨fun h => by omega, fun h => by omega⟩
        rw [hec]
        unfold wantN
        simp only [e1, e2]
        cases a <;> cases b <;> simp <;> omega
      have q11 : decide (((signF t).1.length : Int) > 0) = true → decide (((indexF t (u17 n)).1.length : Int) > 0) = true → ((e : Int) == IntKind.i64.wrap (IntKind.i64.wrap (0 + 1) + u17 n)) = true := fun h1 h2 => by rw [q _ _ h1 h2, hw1, hw2]; simp
      have q10 : decide (((signF t).1.length : Int) > 0) = true → decide (((indexF t (u17 n)).1.length : Int) > 0) = false → ((e : Int) == IntKind.i64.wrap (0 + 1)) = true := fun h1 h2 => by rw [q _ _ h1 h2, hw1]; rfl
      have q01 : decide (((signF t).1.length : Int) > 0) = false → decide (((indexF t (u17 n)).1.length : Int) > 0) = true → ((e : Int) == IntKind.i64.wrap (0 + u17 n)) = true := fun h1 h2 => by rw [q _ _ h1 h2, hw3]; simp
      have q00 : decide (((signF t).1.length : Int) > 0) = false → decide (((indexF t (u17 n)).1.length : Int) > 0) = false → ((e : Int) == 0) = true := fun h1 h2 => by rw [q _ _ h1 h2]; rfl
      refine ⟨?_, ?_⟩
      · skip
        intro h -- decide (↑(signF t).fst.length > 0) = true
        refine ⟨?_, ?_⟩
        · skip
          intro h -- decide (↑(indexF t (u17 n)).fst.length > 0) = true
          refine ⟨?_, ?_⟩
          · skip
            intro h -- (↑(i, e).snd == IntKind.i64.wrap (IntKind.i64.wrap (0 + 1) + u17 n)) = true
            refine ⟨(), trivial, rfl, trivial, ?_⟩
            exact ⟨.refl _, rfl⟩
          · skip
            intro h -- (↑(i, e).snd == IntKind.i64.wrap (IntKind.i64.wrap (0 + 1) + u17 n)) = false
            (exact Bool.noConfusion (h.symm.trans (q11 ‹_› ‹_›)))
        · skip
          intro h -- decide (↑(indexF t (u17 n)).fst.length > 0) = false
          refine ⟨?_, ?_⟩
          · skip
            intro h -- (↑(i, e).snd == IntKind.i64.wrap (0 + 1)) = true
            refine ⟨(), trivial, rfl, trivial, ?_⟩
            exact ⟨.refl _, rfl⟩
          · skip
            intro h -- (↑(i, e).snd == IntKind.i64.wrap (0 + 1)) = false
            (exact Bool.noConfusion (h.symm.trans (q10 ‹_› ‹_›)))
      · skip
        intro h -- decide (↑(signF t).fst.length > 0) = false
        refine ⟨?_, ?_⟩
        · skip
          intro h -- decide (↑(indexF t (u17 n)).fst.length > 0) = true
          refine ⟨?_, ?_⟩
          · skip
            intro h -- (↑(i, e).snd == IntKind.i64.wrap (0 + u17 n)) = true
            refine ⟨(), trivial, rfl, trivial, ?_⟩
            exact ⟨.refl _, rfl⟩
          · skip
            intro h -- (↑(i, e).snd == IntKind.i64.wrap (0 + u17 n)) = false
            (exact Bool.noConfusion (h.symm.trans (q01 ‹_› ‹_›)))
        · skip
          intro h -- decide (↑(indexF t (u17 n)).fst.length > 0) = false
          refine ⟨?_, ?_⟩
          · skip
            intro h -- (↑(i, e).snd == 0) = true
            refine ⟨(), trivial, rfl, trivial, ?_⟩
            exact ⟨.refl _, rfl⟩
          · skip
            intro h -- (↑(i, e).snd == 0) = false
            (exact Bool.noConfusion (h.symm.trans (q00 ‹_› ‹_›)))
end Go.Proofs.Ytndndemnjmdanaa.Ax
