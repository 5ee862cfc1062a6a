/- Layer term by the logic: sums of terms, values. -/
import Derived.Test.YtddcbnillkefhaaTn
set_option linter.unusedVariables false
set_option linter.unusedSimpArgs false
namespace Go.Proofs.Ytddcbnillkefhaa.Ax
open Go Go.RowKit
def ixF {α : Type} (p : α → Bool) : List α → Nat → Int
  | [], _ => -1
  | x :: r, i => if p x then i else ixF p r (i + 1)
theorem ixF_any {α : Type} (p : α → Bool) : ∀ (l : List α) (i : Nat), decide (ixF p l i ≥ 0) = l.any p
  | [], _ => rfl
  | x :: r, i => by
    unfold ixF
    cases h : p x with
    | true => simp [h]
    | false => simpa [h] using ixF_any p r (i + 1)
theorem getD_mem {α : Type} (l : List α) (j : Nat) (d : α) (h : j < l.length) : l.getD j d ∈ l := by rw [show l.getD j d = l[j] from by simp [List.getD, h]]; exact List.getElem_mem h
def addF (a b : Int × List (Int × Int)) : (Int × List (Int × Int)) × Int := if right a ∧ right b then fitsF (sumF a b) else ((0, []), 1)
def term_Add : Ctr := { A := (Int × List (Int × Int)) × (Int × List (Int × Int)), enc := fun x => [termS x.1, termS x.2], dom := fun _ => True, res := fun x _ => .tup [termS (addF x.1 x.2).1, I (addF x.1 x.2).2] }
set_option maxRecDepth 100000 in
set_option maxHeartbeats 4000000 in
theorem term_Add_ok : CtrSound Try.prog 10 term_Add :=
  ctr_of_ax (env_ok tys_ok (eqs := []) trivial (cs := [(20, term_Check), (22, term_fits), (23, term_sum)]) ⟨term_Check_ok, term_fits_ok, term_sum_ok, trivial⟩) mixed _ Try.func10 (by kernel_rfl) rfl (fun _ _ => Nat.le_of_ble_eq_true rfl) fun ((a, b) : (Int × List (Int × Int)) × (Int × List (Int × Int))) id _ => by
    have bad : ¬ (right a ∧ right b) → addF a b = ((0, []), 1) := fun h => if_neg h
    have ck : ∀ t, (checkF t != 0) = true → ¬ right t := fun t h r => by simp [checkF, if_pos r] at h
    have ck' : ∀ t, (checkF t != 0) = false → right t := fun t h => Classical.byContradiction fun r => by simp [checkF, if_neg r] at h
    refine ⟨a, ⟨.refl _, trivial⟩, rfl, trivial, ?_⟩
    refine ⟨?_, ?_⟩
    · skip
      intro h -- (checkF a != 0) = true
      exact ⟨.tup2 (.agg2 (.int (by rw [bad (fun c => ck a ‹_› c.1)])) (by rw [bad (fun c => ck a ‹_› c.1)]; exact .nil ..)) (.int (by rw [bad (fun c => ck a ‹_› c.1)])), rfl⟩
    · skip
      intro h -- (checkF a != 0) = false
      refine ⟨b, ⟨.refl _, trivial⟩, rfl, trivial, ?_⟩
      refine ⟨?_, ?_⟩
      · skip
        intro h -- (checkF b != 0) = true
        exact ⟨.tup2 (.agg2 (.int (by rw [bad (fun c => ck b ‹_› c.2)])) (by rw [bad (fun c => ck b ‹_› c.2)]; exact .nil ..)) (.int (by rw [bad (fun c => ck b ‹_› c.2)])), rfl⟩
      · skip
        intro h -- (checkF b != 0) = false
        refine ⟨(a, b), ⟨.refl _, .refl _, trivial⟩, rfl, (show a.2.length ≤ 1000 ∧ b.2.length ≤ 1000 from by have h1 := (ck' a ‹_›).2.2.1; have h2 := (ck' b ‹_›).2.2.1; omega), ?_⟩
        refine ⟨sumF a b, ⟨.agg2 (.refl _) (.own ..), trivial⟩, rfl, trivial, ?_⟩
        exact ⟨.tup2 (.agg2 (.int (by rw [show addF a b = fitsF (sumF a b) from if_pos ⟨ck' a ‹_›, ck' b ‹_›⟩])) (by rw [show addF a b = fitsF (sumF a b) from if_pos ⟨ck' a ‹_›, ck' b ‹_›⟩]; exact .refl _)) (.int (by rw [show addF a b = fitsF (sumF a b) from if_pos ⟨ck' a ‹_›, ck' b ‹_›⟩])), rfl⟩
def ints (l : List Int) : SV := .row Int 1 (fun n => [I n]) 0 l
def intsE (l : List Int) : SV := .elt Unit 1 (fun _ => [ints l]) () [()] 0 0
def beyond_row (l : List (Int × Int)) : SV := .row (Int × Int) 2 monoC (0, 0) l
def beyond_pred (v : List Int) (x : Int × Int) : Bool := decide (x.1 ≥ (v.length : Int))
def beyond_lit : Ctr := { A := (Int × Int) × (List Int), enc := fun x => (fun (x : Int × Int) => .agg (monoC x)) x.1 :: (fun (v : List Int) => [intsE v]) x.2, dom := fun _ => True, res := fun x _ => B (beyond_pred x.2 x.1) }
def beyond_ix : Ctr := { A := List (Int × Int) × (List Int), enc := fun x => [beyond_row x.1, .fn 27 ((fun (v : List Int) => [intsE v]) x.2)], dom := fun x => x.1.length ≤ 4611686018427387904, res := fun x _ => I (ixF (beyond_pred x.2) x.1 0) }
theorem beyond_ix_ok (hl : CtrSound Try.prog 27 beyond_lit) : CtrSound Try.prog 33 beyond_ix :=
  ctr_of_ax (env_ok tys_ok (eqs := []) trivial (cs := [(27, beyond_lit)]) ⟨hl, trivial⟩) mixed _ Try.func33 (by kernel_rfl) rfl (fun _ _ => Nat.le_of_ble_eq_true rfl) fun ((l, v) : List (Int × Int) × (List Int)) id hd => by
    have hd : l.length ≤ 4611686018427387904 := hd
    refine ⟨Nat, fun i => [(0, beyond_row l), (1, .fn 27 ((fun (v : List Int) => [intsE v]) v)), (7, I l.length), (8, I i)], fun _ => [], fun i => i ≤ l.length ∧ ixF (beyond_pred v) (l.drop i) i = ixF (beyond_pred v) l 0, fun i => l.length - i,
      ⟨0, ⟨Nat.zero_le _, rfl⟩, ⟨⟨rfl, rfl⟩, .refl _, .refl _, .refl _, .refl _, trivial⟩⟩, fun (i : Nat) hi => ?_⟩
    have hil := hi.1
    have hk := hi.2
    have hwj : IntKind.i64.wrap ((i : Int) + 1) = ((i + 1 : Nat) : Int) := by rw [wrap_eq _ (by omega) (by omega)]; omega
    refine ⟨fun h => ?_, fun h => ?_⟩
    · have hlt : i < l.length := by have := of_decide_eq_true h; omega
      rw [drop_at (0, 0) l i hlt] at hk
      refine ⟨⟨by omega, by omega⟩, ?_⟩
      refine ⟨(l.getD i (0, 0), v), ⟨.refl _, .refl _, trivial⟩, rfl, trivial, ?_⟩
      refine ⟨fun h => ?_, fun h => ?_⟩
      · exact ⟨.int (by rw [← hk, ixF, if_pos h]), rfl⟩
      · rw [ixF, if_neg (by simpa using h)] at hk
        exact ⟨i + 1, ⟨hlt, hk⟩, by show l.length - (i + 1) < l.length - i; omega, ⟨rfl, rfl⟩, .refl _, .refl _, .refl _, .int hwj, trivial⟩
    · have hge : i = l.length := by have := of_decide_eq_false h; omega
      subst hge
      rw [List.drop_length] at hk
      exact ⟨.int (by rw [← hk] <;> rfl), rfl⟩
def beyond_has : Ctr := { A := List (Int × Int) × (List Int), enc := fun x => [beyond_row x.1, .fn 27 ((fun (v : List Int) => [intsE v]) x.2)], dom := fun x => x.1.length ≤ 4611686018427387904, res := fun x _ => B (x.1.any (beyond_pred x.2)) }
theorem beyond_has_ok (hl : CtrSound Try.prog 27 beyond_lit) : CtrSound Try.prog 26 beyond_has :=
  ctr_of_ax (env_ok tys_ok (eqs := []) trivial (cs := [(33, beyond_ix)]) ⟨beyond_ix_ok hl, trivial⟩) mixed _ Try.func26 (by kernel_rfl) rfl (fun _ _ => Nat.le_of_ble_eq_true rfl) fun ((l, v) : List (Int × Int) × (List Int)) id hd => by
    refine ⟨(l, v), ⟨.refl _, .refl _, trivial⟩, rfl, hd, ?_⟩
    exact ⟨.bool (by rw [← ixF_any] <;> rfl), rfl⟩
def wide_row (l : List (Int)) : SV := .row (Int) 1 (fun n => [I n]) 0 l
def wide_pred (v : Unit) (x : Int) : Bool := decide (x < -2147483648) || decide (x > 2147483647)
def wide_lit : Ctr := { A := (Int) × (Unit), enc := fun x => (fun (x : Int) => I x) x.1 :: (fun (v : Unit) => []) x.2, dom := fun _ => True, res := fun x _ => B (wide_pred x.2 x.1) }
def wide_ix : Ctr := { A := List (Int) × (Unit), enc := fun x => [wide_row x.1, .fn 29 ((fun (v : Unit) => []) x.2)], dom := fun x => x.1.length ≤ 4611686018427387904, res := fun x _ => I (ixF (wide_pred x.2) x.1 0) }
theorem wide_ix_ok (hl : CtrSound Try.prog 29 wide_lit) : CtrSound Try.prog 34 wide_ix :=
  ctr_of_ax (env_ok tys_ok (eqs := []) trivial (cs := [(29, wide_lit)]) ⟨hl, trivial⟩) mixed _ Try.func34 (by kernel_rfl) rfl (fun _ _ => Nat.le_of_ble_eq_true rfl) fun ((l, v) : List (Int) × (Unit)) id hd => by
    have hd : l.length ≤ 4611686018427387904 := hd
    refine ⟨Nat, fun i => [(0, wide_row l), (1, .fn 29 ((fun (v : Unit) => []) v)), (7, I l.length), (8, I i)], fun _ => [], fun i => i ≤ l.length ∧ ixF (wide_pred v) (l.drop i) i = ixF (wide_pred v) l 0, fun i => l.length - i,
      ⟨0, ⟨Nat.zero_le _, rfl⟩, ⟨⟨rfl, rfl⟩, .refl _, .refl _, .refl _, .refl _, trivial⟩⟩, fun (i : Nat) hi => ?_⟩
    have hil := hi.1
    have hk := hi.2
    have hwj : IntKind.i64.wrap ((i : Int) + 1) = ((i + 1 : Nat) : Int) := by rw [wrap_eq _ (by omega) (by omega)]; omega
    refine ⟨fun h => ?_, fun h => ?_⟩
    · have hlt : i < l.length := by have := of_decide_eq_true h; omega
      rw [drop_at 0 l i hlt] at hk
      refine ⟨⟨by omega, by omega⟩, ?_⟩
      refine ⟨(l.getD i 0, v), ⟨.refl _, trivial⟩, rfl, trivial, ?_⟩
      refine ⟨fun h => ?_, fun h => ?_⟩
      · exact ⟨.int (by rw [← hk, ixF, if_pos h]), rfl⟩
      · rw [ixF, if_neg (by simpa using h)] at hk
        exact ⟨i + 1, ⟨hlt, hk⟩, by show l.length - (i + 1) < l.length - i; omega, ⟨rfl, rfl⟩, .refl _, .refl _, .refl _, .int hwj, trivial⟩
    · have hge : i = l.length := by have := of_decide_eq_false h; omega
      subst hge
      rw [List.drop_length] at hk
      exact ⟨.int (by rw [← hk] <;> rfl), rfl⟩
def wide_has : Ctr := { A := List (Int) × (Unit), enc := fun x => [wide_row x.1, .fn 29 ((fun (v : Unit) => []) x.2)], dom := fun x => x.1.length ≤ 4611686018427387904, res := fun x _ => B (x.1.any (wide_pred x.2)) }
theorem wide_has_ok (hl : CtrSound Try.prog 29 wide_lit) : CtrSound Try.prog 28 wide_has :=
  ctr_of_ax (env_ok tys_ok (eqs := []) trivial (cs := [(34, wide_ix)]) ⟨wide_ix_ok hl, trivial⟩) mixed _ Try.func28 (by kernel_rfl) rfl (fun _ _ => Nat.le_of_ble_eq_true rfl) fun ((l, v) : List (Int) × (Unit)) id hd => by
    refine ⟨(l, v), ⟨.refl _, .refl _, trivial⟩, rfl, hd, ?_⟩
    exact ⟨.bool (by rw [← ixF_any] <;> rfl), rfl⟩
theorem beyond_lit_ok : CtrSound Try.prog 27 beyond_lit :=
  ctr_of_ax (env_ok tys_ok (eqs := []) trivial (cs := []) trivial) mixed _ Try.func27 (by kernel_rfl) rfl (fun _ _ => Nat.le_of_ble_eq_true rfl) fun ((m, v) : (Int × Int) × List Int) id hd => by
    exact ⟨.refl _, rfl⟩
theorem wide_lit_ok : CtrSound Try.prog 29 wide_lit :=
  ctr_of_ax (env_ok tys_ok (eqs := []) trivial (cs := []) trivial) mixed _ Try.func29 (by kernel_rfl) rfl (fun _ _ => Nat.le_of_ble_eq_true rfl) fun ((n, v) : Int × Unit) id hd => by
    refine ⟨fun h => ?_, fun h => ?_⟩
    · exact ⟨.btt (by show (decide (n < -2147483648) || _) = true; rw [h]; rfl), rfl⟩
    · exact ⟨.bool (by show _ = (decide (n < -2147483648) || _); rw [h]; rfl), rfl⟩

theorem mulB (a b : Int) (ha : -1048576 ≤ a ∧ a ≤ 1048576) (hb : -2147483648 ≤ b ∧ b ≤ 2147483647) : -2251799813685248 ≤ a * b ∧ a * b ≤ 2251799813685248 := by
  have h1 : (a * b).natAbs ≤ 1048576 * 2147483648 := by rw [Int.natAbs_mul]; exact Nat.mul_le_mul (by omega) (by omega)
  omega
def valS (v : List Int) : Int → List (Int × Int) → Int
  | c, [] => c
  | c, m :: r => valS v (c + m.2 * v.getD m.1.toNat 0) r
def valueF (t : Int × List (Int × Int)) (v : List Int) : Int × Int := if right t then if t.2.any (beyond_pred v) then (0, 5) else if v.any (wide_pred ()) then (0, 1) else (valS v t.1 t.2, 0) else (0, 1)
def term_Value : Ctr := { A := (Int × List (Int × Int)) × List Int, enc := fun x => [termS x.1, ints x.2], dom := fun x => x.2.length ≤ 4611686018427387904, res := fun x _ => .tup [I (valueF x.1 x.2).1, I (valueF x.1 x.2).2] }
set_option maxRecDepth 100000 in
set_option maxHeartbeats 4000000 in
theorem term_Value_ok : CtrSound Try.prog 16 term_Value :=
  ctr_of_ax (env_ok tys_ok (eqs := []) trivial (cs := [(20, term_Check), (26, beyond_has), (28, wide_has)]) ⟨term_Check_ok, beyond_has_ok beyond_lit_ok, wide_has_ok wide_lit_ok, trivial⟩) mixed _ Try.func16 (by kernel_rfl) rfl (fun _ _ => Nat.le_of_ble_eq_true rfl) fun (((c, l), v) : (Int × List (Int × Int)) × List Int) id hd => by
    have hd : v.length ≤ 4611686018427387904 := hd
    have ck : ∀ t, (checkF t != 0) = true → ¬ right t := fun t h r => by simp [checkF, if_pos r] at h
    have ck' : ∀ t, (checkF t != 0) = false → right t := fun t h => Classical.byContradiction fun r => by simp [checkF, if_neg r] at h
    refine ⟨(c, l), ⟨.refl _, trivial⟩, rfl, trivial, fun h1 => ?_, fun h1 => ?_⟩
    · have e : valueF (c, l) v = (0, 1) := if_neg (ck _ h1)
      exact ⟨.tup2 (.int (by rw [e])) (.int (by rw [e])), rfl⟩
    have hr := ck' _ h1
    have hlen : l.length ≤ 40 := hr.2.2.1
    refine ⟨(l, v), ⟨.refl _, .refl _, trivial⟩, rfl, (show l.length ≤ 4611686018427387904 by omega), fun h2 => ?_, fun h2 => ?_⟩
    · have e : valueF (c, l) v = (0, 5) := by unfold valueF; rw [if_pos hr, if_pos h2]
      exact ⟨.tup2 (.int (by rw [e])) (.int (by rw [e])), rfl⟩
    refine ⟨(v, ()), ⟨.refl _, .refl _, trivial⟩, rfl, hd, fun h3 => ?_, fun h3 => ?_⟩
    · have e : valueF (c, l) v = (0, 1) := by unfold valueF; rw [if_pos hr, if_neg (by simpa using h2), if_pos h3]
      exact ⟨.tup2 (.int (by rw [e])) (.int (by rw [e])), rfl⟩
    have e : valueF (c, l) v = (valS v c l, 0) := by unfold valueF; rw [if_pos hr, if_neg (by simpa using h2), if_neg (by simpa using h3)]
    refine ⟨Nat × Int, fun s => [(2, .box 2 0), (3, .box 3 0), (6, I s.2), (24, monos l), (25, I l.length), (26, I s.1)], fun s => [(2, [I c, monos l]), (3, [ints v])],
      fun s => s.1 ≤ l.length ∧ valS v s.2 (l.drop s.1) = valS v c l ∧ s.2.natAbs ≤ 1099511627776 + s.1 * 2251799813685248, fun s => l.length - s.1,
      ⟨(0, c), ⟨Nat.zero_le _, rfl, by have := hr.1; have := hr.2.1; show c.natAbs ≤ 1099511627776 + 0 * 2251799813685248; omega⟩, ⟨⟨rfl, rfl⟩, ?_⟩⟩, fun ((i, n) : Nat × Int) hi => ?_⟩
    · refine ⟨?_, ?_⟩
      · exact .refl _
      · skip
        refine ⟨?_, ?_⟩
        · exact .refl _
        · skip
          refine ⟨?_, ?_⟩
          · exact .refl _
          · skip
            refine ⟨?_, ?_⟩
            · exact .refl _
            · skip
              refine ⟨?_, ?_⟩
              · exact .refl _
              · skip
                refine ⟨?_, ?_⟩
                · exact .refl _
                · skip
                  refine ⟨?_, ?_⟩
                  · exact ⟨.refl _, trivial⟩
                  · skip
                    refine ⟨?_, ?_⟩
                    · exact ⟨.refl _, .refl _, trivial⟩
                    · skip
                      exact trivial
    have hil : i ≤ l.length := hi.1
    have hk : valS v n (l.drop i) = valS v c l := hi.2.1
    have hn : n.natAbs ≤ 1099511627776 + i * 2251799813685248 := hi.2.2
    have hwj : IntKind.i64.wrap ((i : Int) + 1) = ((i + 1 : Nat) : Int) := by rw [wrap_eq _ (by omega) (by omega)]; omega
    refine ⟨fun h => ?_, fun h => ?_⟩
    · have hlt : i < l.length := by have := of_decide_eq_true h; omega
      have g : good l i := hr.2.2.2 i hlt
      have hb : (l.getD i (0, 0)).1 < (v.length : Int) := by
        have h2 : l.any (beyond_pred v) = false := h2
        have := List.any_eq_false.1 h2 (l.getD i (0, 0)) (by simp [List.getD, hlt])
        simpa [beyond_pred] using this
      have hw : -2147483648 ≤ v.getD (l.getD i (0, 0)).1.toNat 0 ∧ v.getD (l.getD i (0, 0)).1.toNat 0 ≤ 2147483647 := by
        have h3 : v.any (wide_pred ()) = false := h3
        have h0 := g.1
        have := List.any_eq_false.1 h3 (v.getD (l.getD i (0, 0)).1.toNat 0) (getD_mem v _ 0 (by omega))
        simpa [wide_pred] using this
      have hm := mulB (l.getD i (0, 0)).2 (v.getD (l.getD i (0, 0)).1.toNat 0) g.2.2.2.2 hw
      have w1 : IntKind.i64.wrap ((l.getD i (0, 0)).2 * v.getD (l.getD i (0, 0)).1.toNat 0) = (l.getD i (0, 0)).2 * v.getD (l.getD i (0, 0)).1.toNat 0 := wrap_eq _ (by omega) (by omega)
      have w2 : IntKind.i64.wrap (n + (l.getD i (0, 0)).2 * v.getD (l.getD i (0, 0)).1.toNat 0) = n + (l.getD i (0, 0)).2 * v.getD (l.getD i (0, 0)).1.toNat 0 := wrap_eq _ (by omega) (by omega)
      rw [drop_at (0, 0) l i hlt, valS] at hk
      refine ⟨⟨by omega, by omega⟩, ?_⟩
      refine ⟨by kernel_rfl, ?_⟩
      refine ⟨⟨g.1, hb⟩, ?_⟩
      exact ⟨(i + 1, n + (l.getD i (0, 0)).2 * v.getD (l.getD i (0, 0)).1.toNat 0), ⟨hlt, hk, by show (n + (l.getD i (0, 0)).2 * v.getD (l.getD i (0, 0)).1.toNat 0).natAbs ≤ 1099511627776 + (i + 1) * 2251799813685248; omega⟩, by show l.length - (i + 1) < l.length - i; omega, ⟨rfl, rfl⟩, .refl _, .refl _, .refl _, .refl _, .int ((congrArg (fun z => IntKind.i64.wrap (n + z)) w1).trans w2), .int hwj, ⟨.refl _, trivial⟩, ⟨.refl _, .refl _, trivial⟩, trivial⟩
    · have hge : i = l.length := by have := of_decide_eq_false h; omega
      subst hge
      rw [List.drop_length] at hk
      exact ⟨.tup2 (.int (by rw [e]; exact hk)) (.int (by rw [e])), rfl⟩
end Go.Proofs.Ytddcbnillkefhaa.Ax
