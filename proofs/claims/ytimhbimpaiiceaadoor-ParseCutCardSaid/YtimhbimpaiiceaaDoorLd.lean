/- Layer lex by the logic: numbers, words. -/
import Derived.Test.YtimhbimpaiiceaaDoorLn
set_option linter.unusedVariables false
set_option linter.unusedSimpArgs false
namespace Go.Proofs.YtimhbimpaiiceaaDoor.Ax
open Go Go.RowKit
theorem txt_app (a b : List UInt8) : (txt a ++ txt b) = txt (a ++ b) := by
  apply ByteArray.ext
  simp [txt]
theorem u8_wrap (d : Nat) (h : d < 256) : IntKind.u8.wrap (d : Int) = ((UInt8.ofNat d).toNat : Int) := by
  have e : (UInt8.ofNat d).toNat = d := by rw [UInt8.toNat_ofNat']; omega
  rw [e]
  simp only [IntKind.wrap, IntKind.bits, IntKind.signed]
  simp
  omega
def digM (n : Int) : Nat := 2 * n.natAbs + (if n < 0 then 1 else 0)
def digC (k : Nat) : Ctr := { A := Int, enc := fun n => [I n], dom := fun n => digM n < k ∧ -4611686018427387904 ≤ n ∧ n ≤ 4611686018427387904, res := fun n _ => X (Lib.itoa n) }
theorem dig_lt (n : Int) (h0 : -4611686018427387904 ≤ n) (h1 : n ≤ 4611686018427387904) : (Lib.itoa n).length ≤ 21 := Lib.itoa_length_le n (by omega) (by omega)
theorem dig_ok : ∀ k, CtrSound Tryd.prog 21 (digC k) := by
  intro k
  induction k with
  | zero =>
    exact ctr_of_ax (env_ok tys_ok (eqs := []) trivial (cs := []) trivial) mixed _ Tryd.func21 (by kernel_rfl) rfl (fun _ _ => Nat.le_of_ble_eq_true rfl) fun n id hd => absurd hd.1 (Nat.not_lt_zero _)
  | succ k ih =>
    refine ctr_of_ax (env_ok tys_ok (eqs := []) trivial (cs := [(21, digC k)]) ⟨ih, trivial⟩) mixed _ Tryd.func21 (by kernel_rfl) rfl (fun _ _ => Nat.le_of_ble_eq_true rfl) fun (n : Int) id hd => ?_
    have hm : digM n < k + 1 := hd.1
    have h0 : -4611686018427387904 ≤ n := hd.2.1
    have h1 : n ≤ 4611686018427387904 := hd.2.2
    refine ⟨fun h => ?_, fun h => ?_⟩
    · have hn : n < 0 := of_decide_eq_true h
      have hw : IntKind.i64.wrap (0 - n) = -n := by rw [wrap_eq _ (by omega) (by omega)]; omega
      have hl := dig_lt (-n) (by omega) (by omega)
      have he : Lib.itoa n = 45 :: Lib.itoa (-n) := by
        unfold Lib.itoa
        rw [if_pos hn, if_neg (by omega), show (-n).toNat = n.natAbs by omega]
      refine ⟨-n, ⟨.int hw, trivial⟩, rfl, (show digM (-n) < k ∧ -4611686018427387904 ≤ -n ∧ -n ≤ 4611686018427387904 by (unfold digM at hm ⊢; rw [if_pos hn] at hm; rw [if_neg (by omega)]; omega)), ?_⟩
      refine ⟨by have := size_txt (Lib.itoa (-n)); have h3 : (⟨#[45]⟩ : ByteArray).size = 1 := rfl; omega, ?_⟩
      exact ⟨.str (by rw [he]; exact txt_app [45] _), rfl⟩
    · have hn : 0 ≤ n := by have := of_decide_eq_false h; omega
      have hd2 : n.tmod 10 = ((n.toNat % 10 : Nat) : Int) := by rw [Int.tmod_eq_emod_of_nonneg hn]; omega
      have hq : n.tdiv 10 = ((n.toNat / 10 : Nat) : Int) := by rw [Int.tdiv_eq_ediv_of_nonneg hn]; omega
      have hit : Lib.itoa n = Lib.decDigits n.toNat := by unfold Lib.itoa; rw [if_neg (by omega)]
      have hby : IntKind.u8.wrap (IntKind.i64.wrap (48 + n.tmod 10)) = ((UInt8.ofNat (48 + n.toNat % 10)).toNat : Int) := by
        rw [hd2, wrap_eq _ (by omega) (by omega)]
        exact u8_wrap (48 + n.toNat % 10) (by omega)
      refine ⟨by decide, ?_⟩
      refine ⟨UInt8, byteC, 0, [UInt8.ofNat (48 + n.toNat % 10)], ⟨rfl, fun _ => rfl⟩, ⟨.int hby, trivial⟩, rfl, ?_⟩
      refine ⟨_, .own .., ?_⟩
      refine ⟨fun h2 => ?_, fun h2 => ?_⟩
      · have hb : 10 ≤ n := by have := of_decide_eq_true h2; omega
        have hqw : IntKind.i64.wrap (n.tdiv 10) = ((n.toNat / 10 : Nat) : Int) := by rw [hq, wrap_eq _ (by omega) (by omega)]
        have hl := dig_lt ((n.toNat / 10 : Nat) : Int) (by omega) (by omega)
        have he : Lib.itoa n = Lib.itoa ((n.toNat / 10 : Nat) : Int) ++ [UInt8.ofNat (48 + n.toNat % 10)] := by
          have e2 : Lib.itoa ((n.toNat / 10 : Nat) : Int) = Lib.decDigits (n.toNat / 10) := by unfold Lib.itoa; rw [if_neg (by omega)]; rfl
          rw [hit, e2, Lib.decDigits, dif_neg (by omega)]
        refine ⟨by decide, ?_⟩
        refine ⟨((n.toNat / 10 : Nat) : Int), ⟨.int hqw, trivial⟩, rfl, (show digM ((n.toNat / 10 : Nat) : Int) < k ∧ -4611686018427387904 ≤ ((n.toNat / 10 : Nat) : Int) ∧ ((n.toNat / 10 : Nat) : Int) ≤ 4611686018427387904 by (unfold digM at hm ⊢; rw [if_neg (by omega)] at hm ⊢; omega)), ?_⟩
        refine ⟨by have := size_txt (Lib.itoa ((n.toNat / 10 : Nat) : Int)); have h3 := size_txt [UInt8.ofNat (48 + n.toNat % 10)]; simp only [List.length_cons, List.length_nil] at h3; omega, ?_⟩
        exact ⟨.str (by rw [he]; exact txt_app _ _), rfl⟩
      · have hb : n < 10 := by have := of_decide_eq_false h2; omega
        have he : Lib.itoa n = [UInt8.ofNat (48 + n.toNat % 10)] := by
          rw [hit, Lib.decDigits, dif_pos (by omega), show n.toNat % 10 = n.toNat by omega]
        exact ⟨.str (by rw [he]), rfl⟩
def digitsC : Ctr := { A := Int, enc := fun n => [I n], dom := fun n => -4611686018427387904 ≤ n ∧ n ≤ 4611686018427387904, res := fun n _ => X (Lib.itoa n) }
theorem digits_ok : CtrSound Tryd.prog 21 digitsC := ⟨(dig_ok 0).1, fun x H w vs id hd => (dig_ok (digM x + 1)).2 x H w vs id ⟨Nat.lt_succ_self _, hd.1, hd.2⟩⟩

def numC : Ctr := { A := List UInt8, enc := fun l => [X l], dom := fun l => l.length ≤ 4611686018427387904, res := fun l _ => .tup [I ((numF l).getD 0), B (numF l).isSome], gl := tabs }
theorem num_ok : CtrSound Tryd.prog 57 numC :=
  ctr_of_ax (env_okB tys_ok (eqs := []) trivial (cs := [(69, atoiC), (58, itoaC)]) ⟨atoi_ok, itoa_ok, trivial⟩ (bs := []) trivial (gl := tabs)) mixed _ Tryd.func57 (by kernel_rfl) rfl (fun _ _ => Nat.le_of_ble_eq_true rfl) fun (l : List UInt8) id hd => by
    have hd : l.length ≤ 4611686018427387904 := hd
    have hz := size_txt l
    have none_of : (∀ n, ¬ (Lib.itoa n = l ∧ inR n)) → Sub (.tup [I 0, .ff]) (.tup [I ((numF l).getD 0), B (numF l).isSome]) := fun h => by
      rw [(numF_none l).2 h]; exact .tup2 (.refl _) .ff
    have none_of' : numF l = none → Sub (.tup [I 0, .ff]) (.tup [I ((numF l).getD 0), B (numF l).isSome]) := fun h => by
      rw [h]; exact .tup2 (.refl _) .ff
    refine ⟨fun h => ?_, fun h => ?_⟩
    · rw [txt_nil] at h
      exact ⟨none_of' (if_pos (.inl (of_decide_eq_true h))), rfl⟩
    rw [txt_nil] at h
    have hpos : l.length ≠ 0 := of_decide_eq_false h
    refine ⟨fun h => ?_, fun h => ?_⟩
    · exact ⟨none_of' (if_pos (.inr (by have := of_decide_eq_true h; omega))), rfl⟩
    have hle : l.length ≤ 11 := by have := of_decide_eq_false h; omega
    cases hat : Lib.atoi l with
    | none =>
      refine ⟨(txt l, none), ⟨.refl _, trivial⟩, rfl, (show (⟨l.toArray⟩ : ByteArray).size ≤ 18 ∧ Lib.atoi (txt l).data.toList = none from ⟨by omega, hat⟩), ?_⟩
      refine ⟨fun _ => ?_, fun h => absurd h (by decide)⟩
      exact ⟨none_of' (by unfold numF; rw [hat]; split <;> rfl), rfl⟩
    | some n =>
      have hb := Lib.atoi_bound hat (by omega)
      refine ⟨(txt l, some n), ⟨.refl _, trivial⟩, rfl, (show (⟨l.toArray⟩ : ByteArray).size ≤ 18 ∧ Lib.atoi (txt l).data.toList = some n from ⟨by omega, hat⟩), ?_⟩
      refine ⟨fun h => absurd h (by decide), fun _ => ?_⟩
      have no : ¬ (Lib.itoa n = l ∧ inR n) → numF l = none := fun h => by
        unfold numF; rw [if_neg (by omega), hat]; simp only; rw [if_neg h]
      have yes : Lib.itoa n = l → inR n → numF l = some n := fun h h2 => (numF_iff l n).2 ⟨h, h2⟩
      refine ⟨n, ⟨.refl _, trivial⟩, rfl, (show -9223372036854775808 ≤ n ∧ n ≤ 9223372036854775807 by omega), ?_⟩
      have ht := txt_eq (Lib.itoa n) l
      refine ⟨fun h => ?_, fun h => ⟨fun h2 => ?_, fun h2 => ⟨fun h3 => ?_, fun h3 => ?_⟩⟩⟩
      · have h : (!((txt (Lib.itoa n)).toList == (txt l).toList)) = true := h
        rw [ht] at h
        exact ⟨none_of' (no (fun c => by simp [c.1] at h)), rfl⟩
      · exact ⟨none_of' (no (fun c => by have := of_decide_eq_true h2; unfold inR at c; omega)), rfl⟩
      · exact ⟨none_of' (no (fun c => by have := of_decide_eq_true h3; unfold inR at c; omega)), rfl⟩
      · have h : (!((txt (Lib.itoa n)).toList == (txt l).toList)) = false := h
        rw [ht] at h
        have hy := yes (by simpa using h) (by have := of_decide_eq_false h2; have := of_decide_eq_false h3; unfold inR; omega)
        exact ⟨(show Sub (.tup [I n, .tt]) (.tup [I ((numF l).getD 0), B (numF l).isSome]) by rw [hy]; exact .tup2 (.refl _) .tt), rfl⟩
end Go.Proofs.YtimhbimpaiiceaaDoor.Ax
