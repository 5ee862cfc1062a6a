/- Layer term by the logic. -/
import Derived.Test.YtddcbnillkefhaaUi
set_option linter.unusedVariables false
set_option linter.unusedSimpArgs false
namespace Go.Proofs.Ytddcbnillkefhaa.Ax
open Go Go.RowKit

abbrev Mono := Int × Int
abbrev Term := Int × List (Int × Int)
def monoC (m : Int × Int) : List SV := [I m.1, I m.2]
def monos (l : List (Int × Int)) : SV := .row (Int × Int) 2 monoC (0, 0) l
def monosO (l : List (Int × Int)) (id : Nat) : SV := .own (Int × Int) 2 monoC (0, 0) l id
def termC (t : Int × List (Int × Int)) : List SV := [I t.1, monos t.2]
def termS (t : Int × List (Int × Int)) : SV := .agg (termC t)
def termO (t : Int × List (Int × Int)) (id : Nat) : SV := .agg [I t.1, monosO t.2 id]

def term_room : Ctr := { A := Int × Int, enc := fun x => [I x.1, I x.2], dom := fun x => -1152921504606846976 ≤ x.2 ∧ x.2 ≤ 1152921504606846976, res := fun x _ => B (decide (-x.2 ≤ x.1 ∧ x.1 ≤ x.2)) }
theorem term_room_ok : CtrSound Try.prog 24 term_room :=
  ctr_of_ax (env_ok tys_ok (eqs := []) trivial (cs := []) trivial) mixed _ Try.func24 (by kernel_rfl) rfl (fun _ _ => Nat.le_of_ble_eq_true rfl) fun ((n, m) : Int × Int) id hd => by
    have hd : -1152921504606846976 ≤ m ∧ m ≤ 1152921504606846976 := hd
    have hw : IntKind.i64.wrap (0 - m) = -m := by rw [wrap_eq _ (by omega) (by omega)]; omega
    refine ⟨fun h => ?_, fun h => ?_⟩
    · exact ⟨.bool (by rw [decide_eq_decide]; have := of_decide_eq_true h; simp only [hw] at this; omega), rfl⟩
    · exact ⟨.bff (decide_eq_false (by have := of_decide_eq_false h; simp only [hw] at this; omega)), rfl⟩
def okC (n : Int) : Bool := decide (-1099511627776 ≤ n ∧ n ≤ 1099511627776)
def okK (n : Int) : Bool := decide (-1048576 ≤ n ∧ n ≤ 1048576)
def constF (n : Int) : (Int × List (Int × Int)) × Int := if okC n then ((n, []), 0) else ((0, []), 12)
def term_Const : Ctr := { A := Int, enc := fun n => [I n], dom := fun _ => True, res := fun n id => .tup [termO (constF n).1 id, I (constF n).2] }
theorem term_Const_ok : CtrSound Try.prog 11 term_Const :=
  ctr_of_ax (env_ok tys_ok (eqs := []) trivial (cs := [(24, term_room)]) ⟨term_room_ok, trivial⟩) mixed _ Try.func11 (by kernel_rfl) rfl (fun _ _ => Nat.le_of_ble_eq_true rfl) fun (n : Int) id _ => by
    refine ⟨(_, _), ⟨.refl _, .refl _, trivial⟩, rfl, (show (-1152921504606846976 : Int) ≤ 1099511627776 ∧ (1099511627776 : Int) ≤ 1152921504606846976 by omega), ?_⟩
    refine ⟨fun h => ?_, fun h => ?_⟩
    · have e : constF n = ((0, []), 12) := by unfold constF okC; rw [if_neg]; simp at h ⊢; omega
      exact ⟨.tup2 (.agg2 (.int (by rw [e])) (by rw [e]; exact .nilO ..)) (.int (by rw [e])), rfl⟩
    · have e : constF n = ((n, []), 0) := by unfold constF okC; rw [if_pos]; simp at h ⊢; omega
      exact ⟨.tup2 (.agg2 (.int (by rw [e])) (by rw [e]; exact .nilO ..)) (.int (by rw [e])), rfl⟩
def varF (i : Int) : (Int × List (Int × Int)) × Int := if 0 ≤ i ∧ i < 40 then ((0, [(i, 1)]), 0) else ((0, []), 1)
def term_Var : Ctr := { A := Int, enc := fun n => [I n], dom := fun _ => True, res := fun n id => .tup [termO (varF n).1 id, I (varF n).2] }
theorem term_Var_ok : CtrSound Try.prog 8 term_Var :=
  ctr_of_ax (env_ok tys_ok (eqs := []) trivial (cs := []) trivial) mixed _ Try.func8 (by kernel_rfl) rfl (fun _ _ => Nat.le_of_ble_eq_true rfl) fun (n : Int) id _ => by
    have no : ¬ (0 ≤ n ∧ n < 40) → varF n = ((0, []), 1) := fun h => if_neg h
    refine ⟨fun h => ?_, fun h => ⟨fun h2 => ?_, fun h2 => ?_⟩⟩
    · have e := no (by have := of_decide_eq_true h; omega)
      exact ⟨.tup2 (.agg2 (.int (by rw [e])) (by rw [e]; exact .nilO ..)) (.int (by rw [e])), rfl⟩
    · have e := no (by have := of_decide_eq_true h2; omega)
      exact ⟨.tup2 (.agg2 (.int (by rw [e])) (by rw [e]; exact .nilO ..)) (.int (by rw [e])), rfl⟩
    · have e : varF n = ((0, [(n, 1)]), 0) := if_pos (by have := of_decide_eq_false h; have := of_decide_eq_false h2; omega)
      refine ⟨Int × Int, monoC, (0, 0), [(n, 1)], ⟨rfl, fun _ => rfl⟩, ⟨.refl _, .refl _, trivial⟩, rfl, ?_⟩
      exact ⟨.tup2 (.agg2 (.int (by rw [e])) (by rw [e]; exact .refl _)) (.int (by rw [e])), rfl⟩
def good (l : List (Int × Int)) (j : Nat) : Prop := 0 ≤ (l.getD j (0, 0)).1 ∧ (l.getD j (0, 0)).1 < 40 ∧ (0 < j → (l.getD (j - 1) (0, 0)).1 < (l.getD j (0, 0)).1) ∧ (l.getD j (0, 0)).2 ≠ 0 ∧ -1048576 ≤ (l.getD j (0, 0)).2 ∧ (l.getD j (0, 0)).2 ≤ 1048576
instance (l : List (Int × Int)) (j : Nat) : Decidable (good l j) := by unfold good; infer_instance
def right (t : Int × List (Int × Int)) : Prop := -1099511627776 ≤ t.1 ∧ t.1 ≤ 1099511627776 ∧ t.2.length ≤ 40 ∧ ∀ j, j < t.2.length → good t.2 j
instance (t : Int × List (Int × Int)) : Decidable (right t) := by unfold right; infer_instance
def checkF (t : Int × List (Int × Int)) : Int := if right t then 0 else 1
def term_Check : Ctr := { A := Int × List (Int × Int), enc := fun t => [termS t], dom := fun _ => True, res := fun t _ => I (checkF t) }
set_option maxRecDepth 100000 in
theorem term_Check_ok : CtrSound Try.prog 20 term_Check :=
  ctr_of_ax (env_ok tys_ok (eqs := []) trivial (cs := [(24, term_room)]) ⟨term_room_ok, trivial⟩) mixed _ Try.func20 (by kernel_rfl) rfl (fun _ _ => Nat.le_of_ble_eq_true rfl) fun ((c, l) : Int × List (Int × Int)) id _ => by
    have bad : ¬ right (c, l) → checkF (c, l) = 1 := fun h => if_neg h
    refine ⟨(_, _), ⟨.refl _, .refl _, trivial⟩, rfl, (show (-1152921504606846976 : Int) ≤ 1099511627776 ∧ (1099511627776 : Int) ≤ 1152921504606846976 by omega), ?_⟩
    refine ⟨fun h => ?_, fun h => ⟨fun h2 => ?_, fun h2 => ?_⟩⟩
    · exact ⟨.int (bad (fun c => by simp [right] at h c; omega)).symm, rfl⟩
    · exact ⟨.int (bad (fun c => by simp [right] at h2 c; omega)).symm, rfl⟩
    · refine ⟨Nat, fun i => [(1, .box 1 0), (2, I 0), (16, monos l), (17, I l.length), (18, I i)], fun _ => [(1, [I c, monos l])],
        fun i => i ≤ l.length ∧ ∀ j, j < i → good l j, fun i => l.length - i, ⟨0, ⟨Nat.zero_le _, fun j hj => by omega⟩, ⟨⟨rfl, rfl⟩, ?_⟩⟩, fun (i : Nat) hi => ?_⟩
      · exact ⟨.refl _, .refl _, .refl _, .refl _, .refl _, ⟨.refl _, .refl _, trivial⟩, trivial⟩
      · have hlen : l.length ≤ 40 := by simp at h2; omega
        have hcc : -1099511627776 ≤ c ∧ c ≤ 1099511627776 := by simp at h; omega
        have hil := hi.1
        have hwi : 0 < i → IntKind.i64.wrap ((i : Int) - 1) = ((i - 1 : Nat) : Int) := fun h => by rw [wrap_eq _ (by omega) (by omega)]; omega
        have hwj : IntKind.i64.wrap ((i : Int) + 1) = ((i + 1 : Nat) : Int) := by rw [wrap_eq _ (by omega) (by omega)]; omega
        refine ⟨?_, ?_⟩
        · skip
          intro h -- decide (↑i < ↑l.length) = true
          refine ⟨?_, ?_⟩
          · (have hw := wrap_eq ((i : Int) - 1) (by omega) (by have := hi.1; simp at *; omega); simp at *; omega)
          · skip
            refine ⟨?_, ?_⟩
            · kernel_rfl
            · skip
              refine ⟨?_, ?_⟩
              · skip
                intro h -- decide ((l.getD (↑i).toNat (0, 0)).fst < 0) = true
                exact ⟨.int (bad fun c => by have hj := c.2.2.2 i (by simp at *; omega); simp [good] at *; omega).symm, rfl⟩
              · skip
                intro h -- decide ((l.getD (↑i).toNat (0, 0)).fst < 0) = false
                refine ⟨?_, ?_⟩
                · skip
                  intro h -- decide ((l.getD (↑i).toNat (0, 0)).fst ≥ 40) = true
                  exact ⟨.int (bad fun c => by have hj := c.2.2.2 i (by simp at *; omega); simp [good] at *; omega).symm, rfl⟩
                · skip
                  intro h -- decide ((l.getD (↑i).toNat (0, 0)).fst ≥ 40) = false
                  refine ⟨?_, ?_⟩
                  · skip
                    intro h -- decide (↑i > 0) = true
                    refine ⟨?_, ?_⟩
                    · (have hw := wrap_eq ((i : Int) - 1) (by omega) (by have := hi.1; simp at *; omega); simp at *; omega)
                    · skip
                      refine ⟨?_, ?_⟩
                      · skip
                        intro h -- decide ((l.getD (↑i).toNat (0, 0)).fst ≤ (l.getD (IntKind.i64.wrap (↑i - 1)).toNat (0, 0)).fst) = true
                        exact ⟨.int (bad fun c => by have hp : 0 < i := (by simp at *; omega); have hj := c.2.2.2 i (by simp at *; omega); simp [good, hwi hp] at *; omega).symm, rfl⟩
                      · skip
                        intro h -- decide ((l.getD (↑i).toNat (0, 0)).fst ≤ (l.getD (IntKind.i64.wrap (↑i - 1)).toNat (0, 0)).fst) = false
                        refine ⟨?_, ?_⟩
                        · skip
                          intro h -- ((l.getD (↑i).toNat (0, 0)).snd == 0) = true
                          exact ⟨.int (bad fun c => by have hj := c.2.2.2 i (by simp at *; omega); simp [good] at *; omega).symm, rfl⟩
                        · skip
                          intro h -- ((l.getD (↑i).toNat (0, 0)).snd == 0) = false
                          refine ⟨((l.getD i (0, 0)).2, 1048576), ⟨.refl _, .refl _, trivial⟩, rfl, (show (-1152921504606846976 : Int) ≤ 1048576 ∧ (1048576 : Int) ≤ 1152921504606846976 by omega), ?_⟩
                          refine ⟨?_, ?_⟩
                          · skip
                            intro h -- (!decide (-((l.getD i (0, 0)).snd, 1048576).snd ≤ ((l.getD i (0, 0)).snd, 1048576).fst ∧ ((l.getD i (0, 0)).snd, 1048576).fst ≤ ((l.getD i (0, 0)).snd, 1048576)
                            exact ⟨.int (bad fun c => by have hj := c.2.2.2 i (by simp at *; omega); simp [good] at *; omega).symm, rfl⟩
                          · skip
                            intro h -- (!decide (-((l.getD i (0, 0)).snd, 1048576).snd ≤ ((l.getD i (0, 0)).snd, 1048576).fst ∧ ((l.getD i (0, 0)).snd, 1048576).fst ≤ ((l.getD i (0, 0)).snd, 1048576)
                            exact ⟨i + 1, ⟨by simp at *; omega, fun j hj => by rcases Nat.lt_succ_iff_lt_or_eq.1 hj with q | rfl; exact hi.2 j q; ((have hp : 0 < j := by simp at *; omega); simp [good, hwi hp] at *; omega)⟩, by (have : i < l.length := by simp at *; omega); show l.length - (i + 1) < l.length - i; omega, ⟨rfl, rfl⟩, .refl _, .refl _, .refl _, .refl _, .int hwj, ⟨.refl _, .refl _, trivial⟩, trivial⟩
                  · skip
                    intro h -- decide (↑i > 0) = false
                    refine ⟨?_, ?_⟩
                    · skip
                      intro h -- ((l.getD (↑i).toNat (0, 0)).snd == 0) = true
                      exact ⟨.int (bad fun c => by have hj := c.2.2.2 i (by simp at *; omega); simp [good] at *; omega).symm, rfl⟩
                    · skip
                      intro h -- ((l.getD (↑i).toNat (0, 0)).snd == 0) = false
                      refine ⟨((l.getD i (0, 0)).2, 1048576), ⟨.refl _, .refl _, trivial⟩, rfl, (show (-1152921504606846976 : Int) ≤ 1048576 ∧ (1048576 : Int) ≤ 1152921504606846976 by omega), ?_⟩
                      refine ⟨?_, ?_⟩
                      · skip
                        intro h -- (!decide (-((l.getD i (0, 0)).snd, 1048576).snd ≤ ((l.getD i (0, 0)).snd, 1048576).fst ∧ ((l.getD i (0, 0)).snd, 1048576).fst ≤ ((l.getD i (0, 0)).snd, 1048576)
                        exact ⟨.int (bad fun c => by have hj := c.2.2.2 i (by simp at *; omega); simp [good] at *; omega).symm, rfl⟩
                      · skip
                        intro h -- (!decide (-((l.getD i (0, 0)).snd, 1048576).snd ≤ ((l.getD i (0, 0)).snd, 1048576).fst ∧ ((l.getD i (0, 0)).snd, 1048576).fst ≤ ((l.getD i (0, 0)).snd, 1048576)
                        exact ⟨i + 1, ⟨by simp at *; omega, fun j hj => by rcases Nat.lt_succ_iff_lt_or_eq.1 hj with q | rfl; exact hi.2 j q; (simp [good] at *; omega)⟩, by (have : i < l.length := by simp at *; omega); show l.length - (i + 1) < l.length - i; omega, ⟨rfl, rfl⟩, .refl _, .refl _, .refl _, .refl _, .int hwj, ⟨.refl _, .refl _, trivial⟩, trivial⟩
        · skip
          intro h -- decide (↑i < ↑l.length) = false
          exact ⟨.int (if_pos ⟨hcc.1, hcc.2, hlen, fun j hj => hi.2 j (by simp at *; omega)⟩).symm, rfl⟩
def fitsF (t : Int × List (Int × Int)) : (Int × List (Int × Int)) × Int := if right t then (t, 0) else ((0, []), 12)
def term_fits : Ctr := { A := Int × List (Int × Int), enc := fun t => [termS t], dom := fun _ => True, res := fun t _ => .tup [termS (fitsF t).1, I (fitsF t).2] }
theorem term_fits_ok : CtrSound Try.prog 22 term_fits :=
  ctr_of_ax (env_ok tys_ok (eqs := []) trivial (cs := [(20, term_Check)]) ⟨term_Check_ok, trivial⟩) mixed _ Try.func22 (by kernel_rfl) rfl (fun _ _ => Nat.le_of_ble_eq_true rfl) fun ((c, l) : Int × List (Int × Int)) id _ => by
    refine ⟨(c, l), ⟨.refl _, trivial⟩, rfl, trivial, ?_⟩
    refine ⟨fun h => ?_, fun h => ?_⟩
    · have e : fitsF (c, l) = ((0, []), 12) := if_neg (fun r => by simp [checkF, if_pos r] at h)
      exact ⟨.tup2 (.agg2 (.int (by rw [e])) (by rw [e]; exact .nil ..)) (.int (by rw [e])), rfl⟩
    · have e : fitsF (c, l) = ((c, l), 0) := if_pos (Classical.byContradiction fun r => by simp [checkF, if_neg r] at h)
      exact ⟨.tup2 (.agg2 (.int (by rw [e])) (by rw [e]; exact .refl _)) (.int (by rw [e])), rfl⟩
def kF : List (Int × Int) → Int → Int
  | [], _ => 0
  | m :: r, v => if m.1 = v then m.2 else kF r v
theorem drop_at {α : Type} (d : α) (l : List α) (i : Nat) (h : i < l.length) : l.drop i = l.getD i d :: l.drop (i + 1) := by
  rw [List.drop_eq_getElem_cons h]; simp [List.getD, h]
def term_K : Ctr := { A := (Int × List (Int × Int)) × Int, enc := fun x => [termS x.1, I x.2], dom := fun x => x.1.2.length ≤ 1000000000, res := fun x _ => I (kF x.1.2 x.2) }
theorem term_K_ok : CtrSound Try.prog 12 term_K :=
  ctr_of_ax (env_ok tys_ok (eqs := []) trivial (cs := []) trivial) mixed _ Try.func12 (by kernel_rfl) rfl (fun _ _ => Nat.le_of_ble_eq_true rfl) fun (((c, l), v) : (Int × List (Int × Int)) × Int) id hd => by
    have hd : l.length ≤ 1000000000 := hd
    refine ⟨Nat, fun i => [(1, I v), (8, monos l), (9, I l.length), (10, I i)], fun _ => [],
      fun i => i ≤ l.length ∧ kF (l.drop i) v = kF l v, fun i => l.length - i, ⟨0, ⟨Nat.zero_le _, rfl⟩, ⟨⟨rfl, rfl⟩, .refl _, .refl _, .refl _, .refl _, trivial⟩⟩, fun (i : Nat) hi => ?_⟩
    have hil := hi.1
    have hk := hi.2
    have hwj : IntKind.i64.wrap ((i : Int) + 1) = ((i + 1 : Nat) : Int) := by rw [wrap_eq _ (by omega) (by omega)]; omega
    refine ⟨fun h => ?_, fun h => ?_⟩
    · have hlt : i < l.length := by have := of_decide_eq_true h; omega
      rw [drop_at (0, 0) l i hlt] at hk
      refine ⟨⟨by omega, by omega⟩, ?_⟩
      refine ⟨fun h => ?_, fun h => ?_⟩
      · have e : (l.getD i (0, 0)).1 = v := eq_of_beq h
        exact ⟨.int (by rw [← hk, kF, if_pos e]; rfl), rfl⟩
      · have e : (l.getD i (0, 0)).1 ≠ v := fun c => by have h' : ((l.getD i (0, 0)).1 == v) = false := h; rw [c] at h'; simp at h'
        rw [kF, if_neg e] at hk
        exact ⟨i + 1, ⟨hlt, hk⟩, by show l.length - (i + 1) < l.length - i; omega, ⟨rfl, rfl⟩, .refl _, .refl _, .refl _, .int hwj, trivial⟩
    · have hge : i = l.length := by have := of_decide_eq_false h; omega
      subst hge
      rw [List.drop_length] at hk
      exact ⟨.int (by rw [← hk]; rfl), rfl⟩
def timesF (a b most : Int) : Int × Bool :=
  if a = 0 ∨ b = 0 then (0, true) else if -most ≤ a ∧ a ≤ most ∧ -most ≤ b ∧ b ≤ most then (IntKind.i64.wrap (a * b), decide ((a.natAbs : Int) ≤ most / (b.natAbs : Int))) else (0, false)
def term_times : Ctr := { A := Int × Int × Int, enc := fun x => [I x.1, I x.2.1, I x.2.2], dom := fun x => 0 ≤ x.2.2 ∧ x.2.2 ≤ 1099511627776, res := fun x _ => .tup [I (timesF x.1 x.2.1 x.2.2).1, B (timesF x.1 x.2.1 x.2.2).2] }
theorem term_times_ok : CtrSound Try.prog 21 term_times :=
  ctr_of_ax (env_ok tys_ok (eqs := []) trivial (cs := [(24, term_room)]) ⟨term_room_ok, trivial⟩) mixed _ Try.func21 (by kernel_rfl) rfl (fun _ _ => Nat.le_of_ble_eq_true rfl) fun ((a, b, m) : Int × Int × Int) id hd => by
    have hd : 0 ≤ m ∧ m ≤ 1099511627776 := hd
    have hz : a = 0 ∨ b = 0 → timesF a b m = (0, true) := fun h => if_pos h
    have hno : ¬ (a = 0 ∨ b = 0) → ¬ (-m ≤ a ∧ a ≤ m ∧ -m ≤ b ∧ b ≤ m) → timesF a b m = (0, false) := fun h h2 => by unfold timesF; rw [if_neg h, if_neg h2]
    refine ⟨fun h1 => ?_, fun h1 => ⟨fun h2 => ?_, fun h2 => ?_⟩⟩
    · have e := hz (.inl (eq_of_beq h1))
      exact ⟨.tup2 (.int (by rw [e])) (.btt (by rw [e])), rfl⟩
    · have e := hz (.inr (eq_of_beq h2))
      exact ⟨.tup2 (.int (by rw [e])) (.btt (by rw [e])), rfl⟩
    have ha : a ≠ 0 := fun c => by have h' : (a == 0) = false := h1; rw [c] at h'; simp at h'
    have hb : b ≠ 0 := fun c => by have h' : (b == 0) = false := h2; rw [c] at h'; simp at h'
    refine ⟨(a, m), ⟨.refl _, .refl _, trivial⟩, rfl, (show (-1152921504606846976 : Int) ≤ m ∧ m ≤ 1152921504606846976 by omega), fun h3 => ?_, fun h3 => ?_⟩
    · have e := hno (by omega) (by simp at h3; omega)
      exact ⟨.tup2 (.int (by rw [e])) (.bff (by rw [e])), rfl⟩
    refine ⟨(b, m), ⟨.refl _, .refl _, trivial⟩, rfl, (show (-1152921504606846976 : Int) ≤ m ∧ m ≤ 1152921504606846976 by omega), fun h4 => ?_, fun h4 => ?_⟩
    · have e := hno (by omega) (by simp at h4; omega)
      exact ⟨.tup2 (.int (by rw [e])) (.bff (by rw [e])), rfl⟩
    have g3 : -m ≤ a ∧ a ≤ m := by simpa using h3
    have g4 : -m ≤ b ∧ b ≤ m := by simpa using h4
    have wa : IntKind.i64.wrap (0 - a) = -a := by rw [wrap_eq _ (by omega) (by omega)]; omega
    have wb : IntKind.i64.wrap (0 - b) = -b := by rw [wrap_eq _ (by omega) (by omega)]; omega
    have ma : (if a < -a then -a else a) = (a.natAbs : Int) := by split <;> omega
    have mb : (if b < -b then -b else b) = (b.natAbs : Int) := by split <;> omega
    have hq : Int.tdiv m (b.natAbs : Int) = m / (b.natAbs : Int) := Int.tdiv_eq_ediv_of_nonneg hd.1
    have hq2 : 0 ≤ m / (b.natAbs : Int) ∧ m / (b.natAbs : Int) ≤ m := ⟨Int.ediv_nonneg hd.1 (by omega), Int.ediv_le_self _ hd.1⟩
    have e : timesF a b m = (IntKind.i64.wrap (a * b), decide ((a.natAbs : Int) ≤ m / (b.natAbs : Int))) := by
      unfold timesF; rw [if_neg (by omega), if_pos ⟨g3.1, g3.2, g4.1, g4.2⟩]
    refine ⟨by kernel_rfl, fun h5 => ?_, ?_⟩
    · simp only [wb, mb] at h5; omega
    · exact ⟨.tup2 (.int (by rw [e])) (.bool (by simp only [wa, wb, ma, mb, hq, e]; rw [wrap_eq _ (by omega) (by omega)])), rfl⟩
end Go.Proofs.Ytddcbnillkefhaa.Ax
