/- Layer norm by the logic: whether a constraint holds, whether numbers are told. -/
import Derived.Test.YtndndemnjmdanaaNw
set_option linter.unusedVariables false
set_option linter.unusedSimpArgs false
namespace Go.Proofs.Ytndndemnjmdanaa.Ax
open Go Go.RowKit
def holdsF (c : (Int × List (Int × Int)) × Bool) (v : List Int) : Bool × Int := if (valueF c.1 v).2 = 0 then (decide ((valueF c.1 v).1 = 0 ∨ ((valueF c.1 v).1 < 0 ∧ c.2 = false)), 0) else (false, (valueF c.1 v).2)
def norm_Holds : Ctr := { A := ((Int × List (Int × Int)) × Bool) × List Int, enc := fun x => [consS x.1, ints x.2], dom := fun x => x.2.length ≤ 4611686018427387904, res := fun x _ => .tup [B (holdsF x.1 x.2).1, I (holdsF x.1 x.2).2] }
theorem norm_Holds_ok : CtrSound Try.prog 40 norm_Holds :=
  ctr_of_ax (env_ok tys_ok (eqs := []) trivial (cs := [(17, term_Value)]) ⟨term_Value_ok, trivial⟩) mixed _ Try.func40 (by kernel_rfl) rfl (fun _ _ => Nat.le_of_ble_eq_true rfl) fun (((t, e), v) : ((Int × List (Int × Int)) × Bool) × List Int) id hd => by
    have hd : v.length ≤ 4611686018427387904 := hd
    have q0 : ((valueF t v).2 != 0) = true → holdsF (t, e) v = (false, (valueF t v).2) := fun h => if_neg (by simpa using h)
    have q1 : ((valueF t v).2 != 0) = false → holdsF (t, e) v = (decide ((valueF t v).1 = 0 ∨ ((valueF t v).1 < 0 ∧ e = false)), 0) := fun h => if_pos (by simpa using h)
    have q2 : ((valueF t v).2 != 0) = false → ((valueF t v).1 == 0) = false → decide ((valueF t v).1 < 0) = true → holdsF (t, e) v = (!e, 0) := fun h h2 h3 => by
      rw [q1 h]
      have a1 : ¬ (valueF t v).1 = 0 := fun z => by rw [z] at h2; simp at h2
      have a2 := of_decide_eq_true h3
      cases e <;> simp [a1, a2]
    have q3 : ((valueF t v).2 != 0) = false → ((valueF t v).1 == 0) = false → decide ((valueF t v).1 < 0) = false → holdsF (t, e) v = (false, 0) := fun h h2 h3 => by
      rw [q1 h]
      have a1 : ¬ (valueF t v).1 = 0 := fun z => by rw [z] at h2; simp at h2
      have a2 := of_decide_eq_false h3
      simp [a1, a2]
    refine ⟨(t, v), ⟨.agg2 (.refl _) (.refl _), .refl _, trivial⟩, rfl, hd, ?_⟩
    refine ⟨?_, ?_⟩
    · skip
      intro h -- ((valueF (t, v).fst (t, v).snd).snd != 0) = true
      dsimp only at h
      exact ⟨.tup2 (.bff (by rw [q0 h])) (.int (by rw [q0 h])), rfl⟩
    · skip
      intro h -- ((valueF (t, v).fst (t, v).snd).snd != 0) = false
      dsimp only at h
      refine ⟨?_, ?_⟩
      · skip
        intro h -- ((valueF (t, v).fst (t, v).snd).fst == 0) = true
        dsimp only at h
        exact ⟨.tup2 (.btt (by rw [q1 ‹((valueF t v).2 != 0) = false›]; exact decide_eq_true (.inl (eq_of_beq h)))) (.int (by rw [q1 ‹((valueF t v).2 != 0) = false›])), rfl⟩
      · skip
        intro h -- ((valueF (t, v).fst (t, v).snd).fst == 0) = false
        dsimp only at h
        refine ⟨?_, ?_⟩
        · skip
          intro h -- decide ((valueF (t, v).fst (t, v).snd).fst < 0) = true
          dsimp only at h
          exact ⟨.tup2 (.bool (by rw [q2 ‹((valueF t v).2 != 0) = false› ‹((valueF t v).1 == 0) = false› h])) (.int (by rw [q2 ‹((valueF t v).2 != 0) = false› ‹((valueF t v).1 == 0) = false› h])), rfl⟩
        · skip
          intro h -- decide ((valueF (t, v).fst (t, v).snd).fst < 0) = false
          dsimp only at h
          exact ⟨.tup2 (.bff (by rw [q3 ‹((valueF t v).2 != 0) = false› ‹((valueF t v).1 == 0) = false› h])) (.int (by rw [q3 ‹((valueF t v).2 != 0) = false› ‹((valueF t v).1 == 0) = false› h])), rfl⟩
def ref_Told : Ctr := { A := (Int × List (Int × Int)) × List Int, enc := fun x => [termS x.1, ints x.2], dom := fun x => x.2.length ≤ 4611686018427387904, res := fun x _ => I (valueF x.1 x.2).2 }
set_option maxRecDepth 100000 in
set_option maxHeartbeats 4000000 in
theorem ref_Told_ok : CtrSound Try.prog 16 ref_Told :=
  ctr_of_ax (env_ok tys_ok (eqs := []) trivial (cs := [(8, ref_Right), (25, ref_in)]) ⟨ref_Right_ok, ref_in_ok, trivial⟩) mixed _ Try.func16 (by kernel_rfl) rfl (fun _ _ => Nat.le_of_ble_eq_true rfl) fun (((c, l), v) : (Int × List (Int × Int)) × List Int) id hd => by
    have hd : v.length ≤ 4611686018427387904 := hd
    have t1 : ¬ right (c, l) → (valueF (c, l) v).2 = 1 := fun r => by unfold valueF; rw [if_neg r]
    have t2 : right (c, l) → l.any (beyond_pred v) = true → (valueF (c, l) v).2 = 5 := fun r h => by unfold valueF; rw [if_pos r, if_pos h]
    have t3 : right (c, l) → l.any (beyond_pred v) = false → v.any (wide_pred ()) = true → (valueF (c, l) v).2 = 1 := fun r h h2 => by unfold valueF; rw [if_pos r, if_neg (by simpa using h), if_pos h2]
    have t4 : right (c, l) → l.any (beyond_pred v) = false → v.any (wide_pred ()) = false → (valueF (c, l) v).2 = 0 := fun r h h2 => by unfold valueF; rw [if_pos r, if_neg (by simpa using h), if_neg (by simpa using h2)]
    refine ⟨(c, l), ⟨.refl _, trivial⟩, rfl, trivial, fun h1 => ?_, fun h1 => ?_⟩
    · exact ⟨.int (t1 (of_decide_eq_false (ynot h1))).symm, rfl⟩
    have hr : right (c, l) := of_decide_eq_true (nnot h1)
    have hlen : l.length ≤ 40 := hr.2.2.1
    refine ⟨Nat, fun i => [(1, ints v), (2, .box 2 0), (5, I i)], fun _ => [(2, [I c, monos l])], fun i => i ≤ l.length ∧ (l.drop i).any (beyond_pred v) = l.any (beyond_pred v), fun i => l.length - i, ⟨0, ⟨Nat.zero_le _, rfl⟩, ⟨⟨rfl, rfl⟩, .refl _, .refl _, .refl _, ⟨.refl _, .refl _, trivial⟩, trivial⟩⟩, fun (i : Nat) hi => ?_⟩
    have hil : i ≤ l.length := hi.1
    have hk : (l.drop i).any (beyond_pred v) = l.any (beyond_pred v) := hi.2
    have hwj : IntKind.i64.wrap ((i : Int) + 1) = ((i + 1 : Nat) : Int) := by rw [wrap_eq _ (by omega) (by omega)]; omega
    refine ⟨fun h => ?_, fun h => ?_⟩
    · have hlt : i < l.length := of_decide_lt h
      rw [drop_at (0, 0) l i hlt, List.any_cons] at hk
      refine ⟨⟨by omega, by omega⟩, fun h2 => ?_, fun h2 => ?_⟩
      · have h2 : beyond_pred v (l.getD i (0, 0)) = true := h2
        rw [h2, Bool.true_or] at hk
        exact ⟨.int (t2 hr hk.symm).symm, rfl⟩
      · have h2 : beyond_pred v (l.getD i (0, 0)) = false := h2
        rw [h2, Bool.false_or] at hk
        exact ⟨i + 1, ⟨hlt, hk⟩, by show l.length - (i + 1) < l.length - i; omega, ⟨rfl, rfl⟩, .refl _, .int hwj, .refl _, ⟨.refl _, .refl _, trivial⟩, trivial⟩
    have hge : i = l.length := of_decide_ge h hil
    subst hge
    rw [List.drop_length, List.any_nil] at hk
    have hb := hk.symm
    refine ⟨Nat, fun i => [(1, ints v), (6, I i)], fun _ => [], fun i => i ≤ v.length ∧ (v.drop i).any (wide_pred ()) = v.any (wide_pred ()), fun i => v.length - i, ⟨0, ⟨Nat.zero_le _, rfl⟩, ⟨⟨rfl, rfl⟩, .refl _, .refl _, trivial⟩⟩, fun (i : Nat) hi => ?_⟩
    have hil2 : i ≤ v.length := hi.1
    have hk2 : (v.drop i).any (wide_pred ()) = v.any (wide_pred ()) := hi.2
    have hwj2 : IntKind.i64.wrap ((i : Int) + 1) = ((i + 1 : Nat) : Int) := by rw [wrap_eq _ (by omega) (by omega)]; omega
    refine ⟨fun h => ?_, fun h => ?_⟩
    · have hlt : i < v.length := of_decide_lt h
      rw [drop_at 0 v i hlt, List.any_cons] at hk2
      have hw : wide_pred () (v.getD i 0) = !decide (-2147483648 ≤ v.getD i 0 ∧ v.getD i 0 ≤ 2147483647) := by
        unfold wide_pred
        generalize v.getD i 0 = x
        by_cases a1 : x < -2147483648 <;> by_cases a2 : x > 2147483647 <;> simp [a1, a2] <;> omega
      refine ⟨⟨by omega, by omega⟩, ?_⟩
      refine ⟨(v.getD i 0, -2147483648, 2147483647), ⟨.refl _, .refl _, .refl _, trivial⟩, rfl, trivial, fun h2 => ?_, fun h2 => ?_⟩
      · have h2 : (!decide (-2147483648 ≤ v.getD i 0 ∧ v.getD i 0 ≤ 2147483647)) = true := h2
        rw [hw, h2, Bool.true_or] at hk2
        exact ⟨.int (t3 hr hb hk2.symm).symm, rfl⟩
      · have h2 : (!decide (-2147483648 ≤ v.getD i 0 ∧ v.getD i 0 ≤ 2147483647)) = false := h2
        rw [hw, h2, Bool.false_or] at hk2
        exact ⟨i + 1, ⟨hlt, hk2⟩, by show v.length - (i + 1) < v.length - i; omega, ⟨rfl, rfl⟩, .refl _, .int hwj2, trivial⟩
    · have hge : i = v.length := of_decide_ge h hil2
      subst hge
      rw [List.drop_length, List.any_nil] at hk2
      exact ⟨.int (t4 hr hb hk2.symm).symm, rfl⟩
end Go.Proofs.Ytndndemnjmdanaa.Ax
