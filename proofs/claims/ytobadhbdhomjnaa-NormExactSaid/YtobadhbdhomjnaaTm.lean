/- Layer term by the logic. -/
import Derived.Test.YtobadhbdhomjnaaUi
set_option linter.unusedVariables false
set_option linter.unusedSimpArgs false
namespace Go.Proofs.Ytobadhbdhomjnaa.Ax
open Go Go.RowKit

abbrev Mono := Int × Int
abbrev Term := Int × List (Int × Int)
def monoC (m : Int × Int) : List SV := [I m.1, I m.2]
def monos (l : List (Int × Int)) : SV := .row (Int × Int) 2 monoC (0, 0) l
def monosO (l : List (Int × Int)) (id : Nat) : SV := .own (Int × Int) 2 monoC (0, 0) l id
def termC (t : Int × List (Int × Int)) : List SV := [I t.1, monos t.2]
def termS (t : Int × List (Int × Int)) : SV := .agg (termC t)
def termO (t : Int × List (Int × Int)) (id : Nat) : SV := .agg [I t.1, monosO t.2 id]

def term_room : Ctr := { A := Int × Int, enc := fun x => [I x.1, I x.2], dom := fun x => -1152921504606846976 ≤ x.2 ∧ x.2 ≤ 1152921504606846976, res := fun x _ => B (decide (-x.2 ≤ x.1 ∧ x.1 ≤ x.2)) }
theorem term_room_ok : CtrSound Try.prog 41 term_room :=
  ctr_of_ax (env_ok tys_ok (eqs := []) trivial (cs := []) trivial) mixed _ Try.func41 (by kernel_rfl) rfl (fun _ _ => Nat.le_of_ble_eq_true rfl) fun ((n, m) : Int × Int) id hd => by
    have hd : -1152921504606846976 ≤ m ∧ m ≤ 1152921504606846976 := hd
    have hw : IntKind.i64.wrap (0 - m) = -m := by rw [wrap_eq _ (by omega) (by omega)]; omega
    refine ⟨fun h => ?_, fun h => ?_⟩
    · exact ⟨.bool (by rw [decide_eq_decide]; have := of_decide_eq_true h; simp only [hw] at this; omega), rfl⟩
    · exact ⟨.bff (decide_eq_false (by have := of_decide_eq_false h; simp only [hw] at this; omega)), rfl⟩
def okC (n : Int) : Bool := decide (-1099511627776 ≤ n ∧ n ≤ 1099511627776)
def okK (n : Int) : Bool := decide (-1048576 ≤ n ∧ n ≤ 1048576)
def constF (n : Int) : (Int × List (Int × Int)) × Int := if okC n then ((n, []), 0) else ((0, []), 12)
def term_Const : Ctr := { A := Int, enc := fun n => [I n], dom := fun _ => True, res := fun n id => .tup [termO (constF n).1 id, I (constF n).2] }
def varF (i : Int) : (Int × List (Int × Int)) × Int := if 0 ≤ i ∧ i < 40 then ((0, [(i, 1)]), 0) else ((0, []), 1)
def term_Var : Ctr := { A := Int, enc := fun n => [I n], dom := fun _ => True, res := fun n id => .tup [termO (varF n).1 id, I (varF n).2] }
def good (l : List (Int × Int)) (j : Nat) : Prop := 0 ≤ (l.getD j (0, 0)).1 ∧ (l.getD j (0, 0)).1 < 40 ∧ (0 < j → (l.getD (j - 1) (0, 0)).1 < (l.getD j (0, 0)).1) ∧ (l.getD j (0, 0)).2 ≠ 0 ∧ -1048576 ≤ (l.getD j (0, 0)).2 ∧ (l.getD j (0, 0)).2 ≤ 1048576
instance (l : List (Int × Int)) (j : Nat) : Decidable (good l j) := by unfold good; infer_instance
def right (t : Int × List (Int × Int)) : Prop := -1099511627776 ≤ t.1 ∧ t.1 ≤ 1099511627776 ∧ t.2.length ≤ 40 ∧ ∀ j, j < t.2.length → good t.2 j
instance (t : Int × List (Int × Int)) : Decidable (right t) := by unfold right; infer_instance
def checkF (t : Int × List (Int × Int)) : Int := if right t then 0 else 1
def term_Check : Ctr := { A := Int × List (Int × Int), enc := fun t => [termS t], dom := fun _ => True, res := fun t _ => I (checkF t) }
set_option maxRecDepth 100000 in
theorem term_Check_ok : CtrSound Try.prog 27 term_Check :=
  ctr_of_ax (env_ok tys_ok (eqs := []) trivial (cs := [(41, term_room)]) ⟨term_room_ok, trivial⟩) mixed _ Try.func27 (by kernel_rfl) rfl (fun _ _ => Nat.le_of_ble_eq_true rfl) fun ((c, l) : Int × List (Int × Int)) id _ => by
    have bad : ¬ right (c, l) → checkF (c, l) = 1 := fun h => if_neg h
    refine ⟨(_, _), ⟨.refl _, .refl _, trivial⟩, rfl, (show (-1152921504606846976 : Int) ≤ 1099511627776 ∧ (1099511627776 : Int) ≤ 1152921504606846976 by omega), ?_⟩
    refine ⟨fun h => ?_, fun h => ⟨fun h2 => ?_, fun h2 => ?_⟩⟩
    · exact ⟨.int (bad (fun c => by simp [right] at h c; omega)).symm, rfl⟩
    · exact ⟨.int (bad (fun c => by simp [right] at h2 c; omega)).symm, rfl⟩
    · refine ⟨Nat, fun i => [(1, .box 1 0), (2, I 0), (16, monos l), (17, I l.length), (18, I i)], fun _ => [(1, [I c, monos l])],
        fun i => i ≤ l.length ∧ ∀ j, j < i → good l j, fun i => l.length - i, ⟨0, ⟨Nat.zero_le _, fun j hj => by omega⟩, ⟨⟨rfl, rfl⟩, ?_⟩⟩, fun (i : Nat) hi => ?_⟩
      · exact ⟨.refl _, .refl _, .refl _, .refl _, .refl _, ⟨.refl _, .refl _, trivial⟩, trivial⟩
      · have hlen : l.length ≤ 40 := by simp at h2; omega
        have hcc : -1099511627776 ≤ c ∧ c ≤ 1099511627776 := by simp at h; omega
        have hil := hi.1
        have hwi : 0 < i → IntKind.i64.wrap ((i : Int) - 1) = ((i - 1 : Nat) : Int) := fun h => by rw [wrap_eq _ (by omega) (by omega)]; omega
        have hwj : IntKind.i64.wrap ((i : Int) + 1) = ((i + 1 : Nat) : Int) := by rw [wrap_eq _ (by omega) (by omega)]; omega
        refine ⟨?_, ?_⟩
        · skip
          intro h -- decide (↑i < ↑l.length) = true
          refine ⟨?_, ?_⟩
          · (have hw := wrap_eq ((i : Int) - 1) (by omega) (by have := hi.1; simp at *; omega); simp at *; omega)
          · skip
            refine ⟨?_, ?_⟩
            · kernel_rfl
            · skip
              refine ⟨?_, ?_⟩
              · skip
                intro h -- decide ((l.getD (↑i).toNat (0, 0)).fst < 0) = true
                exact ⟨.int (bad fun c => by have hj := c.2.2.2 i (by simp at *; omega); simp [good] at *; omega).symm, rfl⟩
              · skip
                intro h -- decide ((l.getD (↑i).toNat (0, 0)).fst < 0) = false
                refine ⟨?_, ?_⟩
                · skip
                  intro h -- decide ((l.getD (↑i).toNat (0, 0)).fst ≥ 40) = true
                  exact ⟨.int (bad fun c => by have hj := c.2.2.2 i (by simp at *; omega); simp [good] at *; omega).symm, rfl⟩
                · skip
                  intro h -- decide ((l.getD (↑i).toNat (0, 0)).fst ≥ 40) = false
                  refine ⟨?_, ?_⟩
                  · skip
                    intro h -- decide (↑i > 0) = true
                    refine ⟨?_, ?_⟩
                    · (have hw := wrap_eq ((i : Int) - 1) (by omega) (by have := hi.1; simp at *; omega); simp at *; omega)
                    · skip
                      refine ⟨?_, ?_⟩
                      · skip
                        intro h -- decide ((l.getD (↑i).toNat (0, 0)).fst ≤ (l.getD (IntKind.i64.wrap (↑i - 1)).toNat (0, 0)).fst) = true
                        exact ⟨.int (bad fun c => by have hp : 0 < i := (by simp at *; omega); have hj := c.2.2.2 i (by simp at *; omega); simp [good, hwi hp] at *; omega).symm, rfl⟩
                      · skip
                        intro h -- decide ((l.getD (↑i).toNat (0, 0)).fst ≤ (l.getD (IntKind.i64.wrap (↑i - 1)).toNat (0, 0)).fst) = false
                        refine ⟨?_, ?_⟩
                        · skip
                          intro h -- ((l.getD (↑i).toNat (0, 0)).snd == 0) = true
                          exact ⟨.int (bad fun c => by have hj := c.2.2.2 i (by simp at *; omega); simp [good] at *; omega).symm, rfl⟩
                        · skip
                          intro h -- ((l.getD (↑i).toNat (0, 0)).snd == 0) = false
                          refine ⟨((l.getD i (0, 0)).2, 1048576), ⟨.refl _, .refl _, trivial⟩, rfl, (show (-1152921504606846976 : Int) ≤ 1048576 ∧ (1048576 : Int) ≤ 1152921504606846976 by omega), ?_⟩
                          refine ⟨?_, ?_⟩
                          · skip
                            intro h -- (!decide (-((l.getD i (0, 0)).snd, 1048576).snd ≤ ((l.getD i (0, 0)).snd, 1048576).fst ∧ ((l.getD i (0, 0)).snd, 1048576).fst ≤ ((l.getD i (0, 0)).snd, 1048576)
                            exact ⟨.int (bad fun c => by have hj := c.2.2.2 i (by simp at *; omega); simp [good] at *; omega).symm, rfl⟩
                          · skip
                            intro h -- (!decide (-((l.getD i (0, 0)).snd, 1048576).snd ≤ ((l.getD i (0, 0)).snd, 1048576).fst ∧ ((l.getD i (0, 0)).snd, 1048576).fst ≤ ((l.getD i (0, 0)).snd, 1048576)
                            exact ⟨i + 1, ⟨by simp at *; omega, fun j hj => by rcases Nat.lt_succ_iff_lt_or_eq.1 hj with q | rfl; exact hi.2 j q; ((have hp : 0 < j := by simp at *; omega); simp [good, hwi hp] at *; omega)⟩, by (have : i < l.length := by simp at *; omega); show l.length - (i + 1) < l.length - i; omega, ⟨rfl, rfl⟩, .refl _, .refl _, .refl _, .refl _, .int hwj, ⟨.refl _, .refl _, trivial⟩, trivial⟩
                  · skip
                    intro h -- decide (↑i > 0) = false
                    refine ⟨?_, ?_⟩
                    · skip
                      intro h -- ((l.getD (↑i).toNat (0, 0)).snd == 0) = true
                      exact ⟨.int (bad fun c => by have hj := c.2.2.2 i (by simp at *; omega); simp [good] at *; omega).symm, rfl⟩
                    · skip
                      intro h -- ((l.getD (↑i).toNat (0, 0)).snd == 0) = false
                      refine ⟨((l.getD i (0, 0)).2, 1048576), ⟨.refl _, .refl _, trivial⟩, rfl, (show (-1152921504606846976 : Int) ≤ 1048576 ∧ (1048576 : Int) ≤ 1152921504606846976 by omega), ?_⟩
                      refine ⟨?_, ?_⟩
                      · skip
                        intro h -- (!decide (-((l.getD i (0, 0)).snd, 1048576).snd ≤ ((l.getD i (0, 0)).snd, 1048576).fst ∧ ((l.getD i (0, 0)).snd, 1048576).fst ≤ ((l.getD i (0, 0)).snd, 1048576)
                        exact ⟨.int (bad fun c => by have hj := c.2.2.2 i (by simp at *; omega); simp [good] at *; omega).symm, rfl⟩
                      · skip
                        intro h -- (!decide (-((l.getD i (0, 0)).snd, 1048576).snd ≤ ((l.getD i (0, 0)).snd, 1048576).fst ∧ ((l.getD i (0, 0)).snd, 1048576).fst ≤ ((l.getD i (0, 0)).snd, 1048576)
                        exact ⟨i + 1, ⟨by simp at *; omega, fun j hj => by rcases Nat.lt_succ_iff_lt_or_eq.1 hj with q | rfl; exact hi.2 j q; (simp [good] at *; omega)⟩, by (have : i < l.length := by simp at *; omega); show l.length - (i + 1) < l.length - i; omega, ⟨rfl, rfl⟩, .refl _, .refl _, .refl _, .refl _, .int hwj, ⟨.refl _, .refl _, trivial⟩, trivial⟩
        · skip
          intro h -- decide (↑i < ↑l.length) = false
          exact ⟨.int (if_pos ⟨hcc.1, hcc.2, hlen, fun j hj => hi.2 j (by simp at *; omega)⟩).symm, rfl⟩
def fitsF (t : Int × List (Int × Int)) : (Int × List (Int × Int)) × Int := if right t then (t, 0) else ((0, []), 12)
def term_fits : Ctr := { A := Int × List (Int × Int), enc := fun t => [termS t], dom := fun _ => True, res := fun t _ => .tup [termS (fitsF t).1, I (fitsF t).2] }
def kF : List (Int × Int) → Int → Int
  | [], _ => 0
  | m :: r, v => if m.1 = v then m.2 else kF r v
theorem drop_at {α : Type} (d : α) (l : List α) (i : Nat) (h : i < l.length) : l.drop i = l.getD i d :: l.drop (i + 1) := by
  rw [List.drop_eq_getElem_cons h]; simp [List.getD, h]
def term_K : Ctr := { A := (Int × List (Int × Int)) × Int, enc := fun x => [termS x.1, I x.2], dom := fun x => x.1.2.length ≤ 1000000000, res := fun x _ => I (kF x.1.2 x.2) }
def timesF (a b most : Int) : Int × Bool :=
  if a = 0 ∨ b = 0 then (0, true) else if -most ≤ a ∧ a ≤ most ∧ -most ≤ b ∧ b ≤ most then (IntKind.i64.wrap (a * b), decide ((a.natAbs : Int) ≤ most / (b.natAbs : Int))) else (0, false)
def term_times : Ctr := { A := Int × Int × Int, enc := fun x => [I x.1, I x.2.1, I x.2.2], dom := fun x => 0 ≤ x.2.2 ∧ x.2.2 ≤ 1099511627776, res := fun x _ => .tup [I (timesF x.1 x.2.1 x.2.2).1, B (timesF x.1 x.2.1 x.2.2).2] }
end Go.Proofs.Ytobadhbdhomjnaa.Ax
