/- Layer norm by the logic: the reference's multiples, terms alike. -/
import Derived.Test.YtobadhbdhomjnaaNp
set_option linter.unusedVariables false
set_option linter.unusedSimpArgs false
namespace Go.Proofs.Ytobadhbdhomjnaa.Ax
open Go Go.RowKit
def keep_Term : Ctr := { A := (Int × List (Int × Int)) × (Int × List (Int × Int)), enc := fun x => [termS x.1, termS x.2], dom := fun x => x.1.2.length ≤ 4611686018427387904, res := fun x _ => B (decide (x.1 = x.2)) }
set_option maxRecDepth 100000 in
set_option maxHeartbeats 4000000 in
theorem keep_Term_ok : CtrSound Try.prog 14 keep_Term :=
  ctr_of_ax (env_ok tys_ok (eqs := [(38, flatC (Int × Int) monoC)]) ⟨mono_eq, trivial⟩ (cs := []) trivial) mixed _ Try.func14 (by kernel_rfl) rfl (fun _ _ => Nat.le_of_ble_eq_true rfl) fun (((c, k), (d, l)) : (Int × List (Int × Int)) × (Int × List (Int × Int))) id hd => by
    have hd : k.length ≤ 4611686018427387904 := hd
    have no : ¬ ((c, k) = (d, l)) → Sub .ff (B (decide ((c, k) = (d, l)))) := fun h => .bff (decide_eq_false h)
    refine ⟨fun h => ?_, fun h => ⟨fun h2 => ?_, fun h2 => ?_⟩⟩
    · exact ⟨no fun q => by have q1 : c = d := congrArg Prod.fst q; have h : (c != d) = true := h; rw [q1] at h; simp at h, rfl⟩
    · exact ⟨no fun q => by have q1 : k = l := congrArg Prod.snd q; have h2 : ((k.length : Int) != (l.length : Int)) = true := h2; rw [q1] at h2; simp at h2, rfl⟩
    have hc : c = d := by have h : (c != d) = false := h; simpa using h
    have hl : k.length = l.length := by have h2 : ((k.length : Int) != (l.length : Int)) = false := h2; simp at h2; omega
    refine ⟨Nat, fun i => [(2, .box 2 0), (3, .box 3 0), (5, I i)], fun _ => [(2, [I c, monos k]), (3, [I d, monos l])], fun i => i ≤ k.length ∧ ∀ j, j < i → k.getD j (0, 0) = l.getD j (0, 0), fun i => k.length - i,
      ⟨0, ⟨Nat.zero_le _, fun j hj => by omega⟩, ⟨⟨rfl, rfl⟩, .refl _, .refl _, .refl _, ⟨.refl _, .refl _, trivial⟩, ⟨.refl _, .refl _, trivial⟩, trivial⟩⟩, fun (i : Nat) hi => ?_⟩
    have hil := hi.1
    have hwj : IntKind.i64.wrap ((i : Int) + 1) = ((i + 1 : Nat) : Int) := by rw [wrap_eq _ (by omega) (by omega)]; omega
    refine ⟨fun h => ?_, fun h => ?_⟩
    · have hlt : i < k.length := of_decide_lt h
      refine ⟨by kernel_rfl, ?_⟩
      refine ⟨⟨by omega, by omega⟩, ⟨by omega, by omega⟩, ?_⟩
      refine ⟨k.getD i (0, 0), l.getD i (0, 0), ⟨.refl _, .refl _, trivial⟩, ⟨.refl _, .refl _, trivial⟩, fun h => ?_, fun h => ?_⟩
      · have h : (!cellsEq (monoC (k.getD i (0, 0))) (monoC (l.getD i (0, 0)))) = true := h
        rw [mono_eq_dec] at h
        exact ⟨no fun q => by have q1 : k = l := congrArg Prod.snd q; rw [q1] at h; simp at h, rfl⟩
      · have h : (!cellsEq (monoC (k.getD i (0, 0))) (monoC (l.getD i (0, 0)))) = false := h
        rw [mono_eq_dec] at h
        have he : k.getD i (0, 0) = l.getD i (0, 0) := by simpa using h
        exact ⟨i + 1, ⟨hlt, fun j hj => by rcases Nat.lt_succ_iff_lt_or_eq.1 hj with q | rfl; exact hi.2 j q; exact he⟩, by show k.length - (i + 1) < k.length - i; omega, ⟨rfl, rfl⟩, .refl _, .int hwj, .refl _, ⟨.refl _, .refl _, trivial⟩, ⟨.refl _, .refl _, trivial⟩, trivial⟩
    · have hge : i = k.length := of_decide_ge h hil
      exact ⟨.btt (decide_eq_true (by rw [hc, list_ext_getD (0, 0) hl fun j hj => hi.2 j (by omega)])), rfl⟩
def ref_mag : Ctr := { A := Int, enc := fun n => [I n], dom := fun n => -4611686018427387904 ≤ n ∧ n ≤ 4611686018427387904, res := fun n _ => I n.natAbs }
theorem ref_mag_ok : CtrSound Try.prog 40 ref_mag :=
  ctr_of_ax (env_ok tys_ok (eqs := []) trivial (cs := []) trivial) mixed _ Try.func40 (by kernel_rfl) rfl (fun _ _ => Nat.le_of_ble_eq_true rfl) fun (n : Int) id hd => by
    have hd : -4611686018427387904 ≤ n ∧ n ≤ 4611686018427387904 := hd
    refine ⟨fun h => ?_, fun h => ?_⟩
    · have h := of_decide_eq_true h
      exact ⟨.int (by rw [wrap_eq _ (by omega) (by omega)]; omega), rfl⟩
    · have h := of_decide_eq_false h
      exact ⟨.int (by omega), rfl⟩
def roomF (a k most : Int) : Bool := decide (a = 0 ∨ k = 0) || (decide (-most ≤ a ∧ a ≤ most) && (decide (-most ≤ k ∧ k ≤ most) && decide ((-most).tdiv k.natAbs ≤ a ∧ a ≤ most.tdiv k.natAbs)))
def ref_room : Ctr := { A := Int × Int × Int, enc := fun x => [I x.1, I x.2.1, I x.2.2], dom := fun x => (0 ≤ x.2.2 ∧ x.2.2 ≤ 1099511627776) ∧ -4611686018427387904 ≤ x.2.1 ∧ x.2.1 ≤ 4611686018427387904, res := fun x _ => B (roomF x.1 x.2.1 x.2.2) }
set_option maxRecDepth 100000 in
set_option maxHeartbeats 4000000 in
theorem ref_room_ok : CtrSound Try.prog 26 ref_room :=
  ctr_of_ax (env_ok tys_ok (eqs := []) trivial (cs := [(25, ref_in), (40, ref_mag)]) ⟨ref_in_ok, ref_mag_ok, trivial⟩) mixed _ Try.func26 (by kernel_rfl) rfl (fun _ _ => Nat.le_of_ble_eq_true rfl) fun ((a, k, m) : Int × Int × Int) id hd => by
    have hd : (0 ≤ m ∧ m ≤ 1099511627776) ∧ -4611686018427387904 ≤ k ∧ k ≤ 4611686018427387904 := hd
    have wn : IntKind.i64.wrap (0 - m) = -m := by rw [wrap_eq _ (by omega) (by omega)]; omega
    have yes : (a == 0) = true ∨ (k == 0) = true → roomF a k m = true := fun h => by
      unfold roomF; rw [decide_eq_true (show a = 0 ∨ k = 0 from h.elim (fun q => .inl (eq_of_beq q)) (fun q => .inr (eq_of_beq q)))]; rfl
    refine ⟨fun h => ?_, fun h => ⟨fun h2 => ?_, fun h2 => ?_⟩⟩
    · exact ⟨.btt (yes (.inl h)), rfl⟩
    · exact ⟨.btt (yes (.inr h2)), rfl⟩
    have ha : a ≠ 0 := fun z => by have h : (a == 0) = false := h; rw [z] at h; simp at h
    have hk : k ≠ 0 := fun z => by have h2 : (k == 0) = false := h2; rw [z] at h2; simp at h2
    have hr : roomF a k m = (decide (-m ≤ a ∧ a ≤ m) && (decide (-m ≤ k ∧ k ≤ m) && decide ((-m).tdiv k.natAbs ≤ a ∧ a ≤ m.tdiv k.natAbs))) := by
      unfold roomF; rw [decide_eq_false (by omega)]; rfl
    have hkz : (k.natAbs : Int) ≠ 0 := by omega
    have q1 : (m.tdiv k.natAbs).natAbs ≤ m.natAbs := by rw [Int.natAbs_tdiv]; exact Nat.div_le_self _ _
    have q2 : ((-m).tdiv k.natAbs).natAbs ≤ (-m).natAbs := by rw [Int.natAbs_tdiv]; exact Nat.div_le_self _ _
    have w1 : IntKind.i64.wrap (m.tdiv k.natAbs) = m.tdiv k.natAbs := wrap_eq _ (by omega) (by omega)
    have w2 : IntKind.i64.wrap ((-m).tdiv k.natAbs) = (-m).tdiv k.natAbs := wrap_eq _ (by omega) (by omega)
    refine ⟨by kernel_rfl, ?_⟩
    refine ⟨(a, -m, m), ⟨.refl _, .int wn, .refl _, trivial⟩, rfl, trivial, ?_⟩
    refine ⟨fun h3 => ?_, fun h3 => ?_⟩
    · have h3 : decide (-m ≤ a ∧ a ≤ m) = true := h3
      refine ⟨(k, -m, m), ⟨.refl _, .int wn, .refl _, trivial⟩, rfl, trivial, ?_⟩
      refine ⟨fun h4 => ?_, fun h4 => ?_⟩
      · have h4 : decide (-m ≤ k ∧ k ≤ m) = true := h4
        refine ⟨k, ⟨.refl _, trivial⟩, rfl, hd.2, hkz, ?_⟩
        refine ⟨k, ⟨.refl _, trivial⟩, rfl, hd.2, hkz, ?_⟩
        refine ⟨(a, (-m).tdiv k.natAbs, m.tdiv k.natAbs), ⟨.refl _, .int (by rw [wn]; exact w2), .int w1, trivial⟩, rfl, trivial, ?_⟩
        exact ⟨.bool (by show _ = roomF a k m; rw [hr, h3, h4]; rfl), rfl⟩
      · have h4 : decide (-m ≤ k ∧ k ≤ m) = false := h4
        exact ⟨.bff (by show roomF a k m = false; rw [hr, h3, h4]; rfl), rfl⟩
    · have h3 : decide (-m ≤ a ∧ a ≤ m) = false := h3
      exact ⟨.bff (by show roomF a k m = false; rw [hr, h3]; rfl), rfl⟩
end Go.Proofs.Ytobadhbdhomjnaa.Ax
