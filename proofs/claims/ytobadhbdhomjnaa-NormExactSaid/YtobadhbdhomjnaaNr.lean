/- Layer norm by the logic: the reference's counting, its values. -/
import Derived.Test.YtobadhbdhomjnaaNo
set_option linter.unusedVariables false
set_option linter.unusedSimpArgs false
namespace Go.Proofs.Ytobadhbdhomjnaa.Ax
open Go Go.RowKit
def ref_gcd : Ctr := { A := Int × Int, enc := fun x => [I x.1, I x.2], dom := fun x => (-1152921504606846976 ≤ x.1 ∧ x.1 ≤ 1152921504606846976) ∧ -1152921504606846976 ≤ x.2 ∧ x.2 ≤ 1152921504606846976, res := fun x _ => I (Int.gcd x.1 x.2) }
theorem ref_gcd_ok : CtrSound Try.prog 37 ref_gcd :=
  ctr_of_ax (env_ok tys_ok (eqs := []) trivial (cs := [(40, ref_mag)]) ⟨ref_mag_ok, trivial⟩) mixed _ Try.func37 (by kernel_rfl) rfl (fun _ _ => Nat.le_of_ble_eq_true rfl) fun ((a, b) : Int × Int) id hd => by
    have hd : (-1152921504606846976 ≤ a ∧ a ≤ 1152921504606846976) ∧ -1152921504606846976 ≤ b ∧ b ≤ 1152921504606846976 := hd
    refine ⟨a, ⟨.refl _, trivial⟩, rfl, (show -4611686018427387904 ≤ a ∧ a ≤ 4611686018427387904 by omega), ?_⟩
    refine ⟨b, ⟨.refl _, trivial⟩, rfl, (show -4611686018427387904 ≤ b ∧ b ≤ 4611686018427387904 by omega), ?_⟩
    refine ⟨Nat × Nat, fun s => [(0, I s.1), (1, I s.2)], fun _ => [], fun s => Nat.gcd s.1 s.2 = Int.gcd a b, fun s => s.2,
      ⟨(a.natAbs, b.natAbs), rfl, ⟨⟨rfl, rfl⟩, .refl _, .refl _, trivial⟩⟩, fun ((x, y) : Nat × Nat) hi => ?_⟩
    have hg : Nat.gcd x y = Int.gcd a b := hi
    refine ⟨fun h => ?_, fun h => ?_⟩
    · have hne : y ≠ 0 := by simpa using h
      have hm : ((x : Int).tmod y) = ((x % y : Nat) : Int) := rfl
      refine ⟨by kernel_rfl, ?_⟩
      refine ⟨(show (y : Int) ≠ 0 by omega), ?_⟩
      exact ⟨(y, x % y), (by show Nat.gcd y (x % y) = Int.gcd a b; rw [← hg, Nat.gcd_comm y, ← Nat.gcd_rec, Nat.gcd_comm]), Nat.mod_lt _ (by omega), ⟨rfl, rfl⟩, .refl _, .int hm, trivial⟩
    · have hz : y = 0 := by simpa using h
      exact ⟨.int (by rw [← hg, hz, Nat.gcd_zero_right]), rfl⟩
def ref_up : Ctr := { A := Int × Int, enc := fun x => [I x.1, I x.2], dom := fun x => (-1152921504606846976 ≤ x.1 ∧ x.1 ≤ 1152921504606846976) ∧ 0 < x.2, res := fun x _ => I (upF x.1 x.2) }
theorem ref_up_ok : CtrSound Try.prog 38 ref_up :=
  ctr_of_ax (env_ok tys_ok (eqs := []) trivial (cs := []) trivial) mixed _ Try.func38 (by kernel_rfl) rfl (fun _ _ => Nat.le_of_ble_eq_true rfl) fun ((a, b) : Int × Int) id hd => by
    have hd : (-1152921504606846976 ≤ a ∧ a ≤ 1152921504606846976) ∧ 0 < b := hd
    have hq : (a.tdiv b).natAbs ≤ a.natAbs := by rw [Int.natAbs_tdiv]; exact Nat.div_le_self _ _
    have hne : b ≠ 0 := by omega
    have w1 : IntKind.i64.wrap (a.tdiv b) = a.tdiv b := wrap_eq _ (by omega) (by omega)
    have w2 : IntKind.i64.wrap (a.tdiv b + 1) = a.tdiv b + 1 := wrap_eq _ (by omega) (by omega)
    refine ⟨hne, hne, fun h => ?_, fun h => ?_⟩
    · exact ⟨.int (by
        show IntKind.i64.wrap (IntKind.i64.wrap (a.tdiv b) + 1) = upF a b
        rw [w1, w2, upF, if_pos (of_decide_eq_true h)]), rfl⟩
    · exact ⟨.int (by
        show IntKind.i64.wrap (a.tdiv b) = upF a b
        rw [w1, upF, if_neg (of_decide_eq_false h)]), rfl⟩
def ref_Value : Ctr := { A := (Int × List (Int × Int)) × List Int, enc := fun x => [termS x.1, ints x.2], dom := fun x => (valueF x.1 x.2).2 = 0, res := fun x _ => I (valueF x.1 x.2).1 }
set_option maxRecDepth 100000 in
set_option maxHeartbeats 4000000 in
theorem ref_Value_ok : CtrSound Try.prog 36 ref_Value :=
  ctr_of_ax (env_ok tys_ok (eqs := []) trivial (cs := []) trivial) mixed _ Try.func36 (by kernel_rfl) rfl (fun _ _ => Nat.le_of_ble_eq_true rfl) fun (((c, l), v) : (Int × List (Int × Int)) × List Int) id hd => by
    have hd : (valueF (c, l) v).2 = 0 := hd
    have T := value_told hd
    have hr := T.1
    have hq := T.2.1
    have hp := T.2.2.1
    have e : (valueF (c, l) v).1 = valS v c l := by rw [T.2.2.2, valS_dot]
    clear T
    have hlen : l.length ≤ 40 := hr.2.2.1
    refine ⟨Nat × Int, fun s => [(1, ints v), (2, .box 2 0), (5, I s.2), (6, I s.1)], fun s => [(2, [I c, monos l])],
      fun s => s.1 ≤ l.length ∧ valS v s.2 (l.drop s.1) = valS v c l ∧ s.2.natAbs ≤ 1099511627776 + s.1 * 2251799813685248, fun s => l.length - s.1,
      ⟨(0, c), ⟨Nat.zero_le _, rfl, by have := hr.1; have := hr.2.1; show c.natAbs ≤ 1099511627776 + 0 * 2251799813685248; dsimp only at *; omega⟩, ⟨⟨rfl, rfl⟩, .refl _, .refl _, .refl _, .refl _, ⟨.refl _, .refl _, trivial⟩, trivial⟩⟩, fun ((i, n) : Nat × Int) hi => ?_⟩
    have hil : i ≤ l.length := hi.1
    have hk : valS v n (l.drop i) = valS v c l := hi.2.1
    have hn : n.natAbs ≤ 1099511627776 + i * 2251799813685248 := hi.2.2
    have hwj : IntKind.i64.wrap ((i : Int) + 1) = ((i + 1 : Nat) : Int) := by rw [wrap_eq _ (by omega) (by omega)]; omega
    refine ⟨fun h => ?_, fun h => ?_⟩
    · have hlt : i < l.length := of_decide_lt h
      have g : good l i := hr.2.2.2 i hlt
      have hb : (l.getD i (0, 0)).1 < (v.length : Int) := by
        have := List.any_eq_false.1 hq (l.getD i (0, 0)) (getD_mem l i _ hlt)
        simpa [beyond_pred] using this
      have hw : -2147483648 ≤ v.getD (l.getD i (0, 0)).1.toNat 0 ∧ v.getD (l.getD i (0, 0)).1.toNat 0 ≤ 2147483647 := by
        have h0 := g.1
        have := List.any_eq_false.1 hp (v.getD (l.getD i (0, 0)).1.toNat 0) (getD_mem v _ 0 (by omega))
        simpa [wide_pred] using this
      have hm := mulB (l.getD i (0, 0)).2 (v.getD (l.getD i (0, 0)).1.toNat 0) g.2.2.2.2 hw
      have w1 : IntKind.i64.wrap ((l.getD i (0, 0)).2 * v.getD (l.getD i (0, 0)).1.toNat 0) = (l.getD i (0, 0)).2 * v.getD (l.getD i (0, 0)).1.toNat 0 := wrap_eq _ (by omega) (by omega)
      have w2 : IntKind.i64.wrap (n + (l.getD i (0, 0)).2 * v.getD (l.getD i (0, 0)).1.toNat 0) = n + (l.getD i (0, 0)).2 * v.getD (l.getD i (0, 0)).1.toNat 0 := wrap_eq _ (by omega) (by omega)
      rw [drop_at (0, 0) l i hlt, valS] at hk
      refine ⟨by kernel_rfl, ?_⟩
      refine ⟨⟨by omega, by dsimp only; omega⟩, ⟨by omega, by dsimp only; omega⟩, ⟨g.1, hb⟩, ?_⟩
      exact ⟨(i + 1, n + (l.getD i (0, 0)).2 * v.getD (l.getD i (0, 0)).1.toNat 0), ⟨hlt, hk, by show (n + (l.getD i (0, 0)).2 * v.getD (l.getD i (0, 0)).1.toNat 0).natAbs ≤ 1099511627776 + (i + 1) * 2251799813685248; omega⟩, by show l.length - (i + 1) < l.length - i; omega, ⟨rfl, rfl⟩, .refl _, .int ((congrArg (fun z => IntKind.i64.wrap (n + z)) w1).trans w2), .refl _, .int hwj, ⟨.refl _, .refl _, trivial⟩, trivial⟩
    · have hge : i = l.length := of_decide_ge h hil
      subst hge
      rw [List.drop_length] at hk
      exact ⟨.int (by rw [e]; exact hk), rfl⟩
def ref_Holds : Ctr := { A := ((Int × List (Int × Int)) × Bool) × List Int, enc := fun x => [consS x.1, ints x.2], dom := fun x => (valueF x.1.1 x.2).2 = 0, res := fun x _ => B (holdsF x.1 x.2).1 }
theorem ref_Holds_ok : CtrSound Try.prog 22 ref_Holds :=
  ctr_of_ax (env_ok tys_ok (eqs := []) trivial (cs := [(36, ref_Value)]) ⟨ref_Value_ok, trivial⟩) mixed _ Try.func22 (by kernel_rfl) rfl (fun _ _ => Nat.le_of_ble_eq_true rfl) fun (((t, e), v) : ((Int × List (Int × Int)) × Bool) × List Int) id hd => by
    have hd : (valueF t v).2 = 0 := hd
    have q1 : (holdsF (t, e) v).1 = decide ((valueF t v).1 = 0 ∨ ((valueF t v).1 < 0 ∧ e = false)) := by unfold holdsF; rw [if_pos hd]
    refine ⟨(t, v), ⟨.agg2 (.refl _) (.refl _), .refl _, trivial⟩, rfl, hd, ?_⟩
    cases e
    · refine ⟨?_, ?_⟩
      · skip
        intro h -- ((valueF (t, v).fst (t, v).snd).fst == 0) = true
        dsimp only at h
        exact ⟨.btt (by rw [q1]; exact decide_eq_true (.inl (eq_of_beq h))), rfl⟩
      · skip
        intro h -- ((valueF (t, v).fst (t, v).snd).fst == 0) = false
        dsimp only at h
        refine ⟨?_, ?_⟩
        · skip
          intro h -- (!((t, false), v).fst.snd) = true
          dsimp only at h
          exact ⟨.bool (by rw [q1, decide_eq_decide]; have h8 := ‹((valueF t v).1 == 0) = false›; constructor; exact fun z => .inr ⟨z, rfl⟩; exact fun z => z.elim (fun z => absurd (beq_iff_eq.2 z) (by rw [h8]; decide)) (fun z => z.1)), rfl⟩
        · skip
          intro h -- (!((t, false), v).fst.snd) = false
          dsimp only at h
          (exact Bool.noConfusion h)
    · refine ⟨?_, ?_⟩
      · skip
        intro h -- ((valueF (t, v).fst (t, v).snd).fst == 0) = true
        dsimp only at h
        exact ⟨.btt (by rw [q1]; exact decide_eq_true (.inl (eq_of_beq h))), rfl⟩
      · skip
        intro h -- ((valueF (t, v).fst (t, v).snd).fst == 0) = false
        dsimp only at h
        refine ⟨?_, ?_⟩
        · skip
          intro h -- (!((t, true), v).fst.snd) = true
          dsimp only at h
          (exact Bool.noConfusion h)
        · skip
          intro h -- (!((t, true), v).fst.snd) = false
          dsimp only at h
          exact ⟨.bff (by rw [q1]; have h8 := ‹((valueF t v).1 == 0) = false›; exact decide_eq_false (fun z => z.elim (fun z => absurd (beq_iff_eq.2 z) (by rw [h8]; decide)) (fun z => Bool.noConfusion z.2))), rfl⟩
def ref_there : Ctr := { A := List CC × CC, enc := fun x => [conses x.1, consS x.2], dom := fun x => x.1.length ≤ 4611686018427387904 ∧ ∀ y ∈ x.1, y.1.2.length ≤ 4611686018427387904, res := fun x _ => B (x.1.any (same_pred x.2)) }
theorem ref_there_ok : CtrSound Try.prog 39 ref_there :=
  ctr_of_ax (env_ok tys_ok (eqs := []) trivial (cs := [(14, keep_Term)]) ⟨keep_Term_ok, trivial⟩) mixed _ Try.func39 (by kernel_rfl) rfl (fun _ _ => Nat.le_of_ble_eq_true rfl) fun ((l, x) : List CC × CC) id hd => by
    have hm : ∀ y ∈ l, y.1.2.length ≤ 4611686018427387904 := hd.2
    have hd : l.length ≤ 4611686018427387904 := hd.1
    refine ⟨Nat, fun i => [(0, conses l), (3, .box 3 0), (5, I i)], fun _ => [(3, consC x)], fun i => i ≤ l.length ∧ (l.drop i).any (same_pred x) = l.any (same_pred x), fun i => l.length - i, ⟨0, ⟨Nat.zero_le _, rfl⟩, ⟨⟨rfl, rfl⟩, .refl _, .refl _, .refl _, ⟨.refl _, .refl _, .refl _, trivial⟩, trivial⟩⟩, fun (i : Nat) hi => ?_⟩
    have hil : i ≤ l.length := hi.1
    have hk : (l.drop i).any (same_pred x) = l.any (same_pred x) := hi.2
    have hwj : IntKind.i64.wrap ((i : Int) + 1) = ((i + 1 : Nat) : Int) := by rw [wrap_eq _ (by omega) (by omega)]; omega
    refine ⟨fun h => ?_, fun h => ?_⟩
    · have hlt : i < l.length := of_decide_lt h
      rw [drop_at ((0, []), false) l i hlt, List.any_cons] at hk
      have no : same_pred x (l.getD i ((0, []), false)) = false → (l.drop (i + 1)).any (same_pred x) = l.any (same_pred x) := fun q => by rw [q, Bool.false_or] at hk; exact hk
      have yes : same_pred x (l.getD i ((0, []), false)) = true → l.any (same_pred x) = true := fun q => by rw [q, Bool.true_or] at hk; exact hk.symm
      refine ⟨by kernel_rfl, ?_⟩
      refine ⟨⟨by omega, by omega⟩, fun h2 => ?_, fun h2 => ?_⟩
      · have h2 : (l.getD i ((0, []), false)).2 = x.2 := eq_of_beq h2
        refine ⟨⟨by omega, by omega⟩, ?_⟩
        refine ⟨((l.getD i ((0, []), false)).1, x.1), ⟨.agg2 (.refl _) (.refl _), .agg2 (.refl _) (.refl _), trivial⟩, rfl, hm _ (getD_mem l i _ hlt), fun h3 => ?_, fun h3 => ?_⟩
        · have h3 : (l.getD i ((0, []), false)).1 = x.1 := of_decide_eq_true h3
          exact ⟨.btt (yes ((same_iff _ _).2 (Prod.ext h3 h2))), rfl⟩
        · have h3 : ¬ (l.getD i ((0, []), false)).1 = x.1 := of_decide_eq_false h3
          exact ⟨i + 1, ⟨hlt, no (by cases q : same_pred x (l.getD i ((0, []), false)) with | false => rfl | true => exact absurd (congrArg Prod.fst ((same_iff _ _).1 q)) h3)⟩, by show l.length - (i + 1) < l.length - i; omega, ⟨rfl, rfl⟩, .refl _, .refl _, .int hwj, ⟨.refl _, .refl _, .refl _, trivial⟩, trivial⟩
      · have h2 : ((l.getD i ((0, []), false)).2 == x.2) = false := h2
        exact ⟨i + 1, ⟨hlt, no (by cases q : same_pred x (l.getD i ((0, []), false)) with | false => rfl | true => rw [(same_iff _ _).1 q] at h2; simp at h2)⟩, by show l.length - (i + 1) < l.length - i; omega, ⟨rfl, rfl⟩, .refl _, .refl _, .int hwj, ⟨.refl _, .refl _, .refl _, trivial⟩, trivial⟩
    · have hge : i = l.length := of_decide_ge h hil
      subst hge
      rw [List.drop_length, List.any_nil] at hk
      exact ⟨.bff hk.symm, rfl⟩
end Go.Proofs.Ytobadhbdhomjnaa.Ax
