/- Layer term by the logic: what the statements' own functions come to. -/
import Derived.Test.YtddcbnillkefhaaTp
set_option linter.unusedVariables false
set_option linter.unusedSimpArgs false
namespace Go.Proofs.Ytddcbnillkefhaa.Ax
open Go Go.RowKit
theorem nnot {b : Bool} (h : (!b) = false) : b = true := by cases b <;> simp_all
theorem ynot {b : Bool} (h : (!b) = true) : b = false := by cases b <;> simp_all
def ref_in : Ctr := { A := Int × Int × Int, enc := fun x => [I x.1, I x.2.1, I x.2.2], dom := fun _ => True, res := fun x _ => B (decide (x.2.1 ≤ x.1 ∧ x.1 ≤ x.2.2)) }
theorem ref_in_ok : CtrSound Try.prog 25 ref_in :=
  ctr_of_ax (env_ok tys_ok (eqs := []) trivial (cs := []) trivial) mixed _ Try.func25 (by kernel_rfl) rfl (fun _ _ => Nat.le_of_ble_eq_true rfl) fun ((n, lo, hi) : Int × Int × Int) id hd => by
    refine ⟨fun h => ?_, fun h => ?_⟩
    · exact ⟨.bool (by rw [decide_eq_decide]; have := of_decide_eq_true h; dsimp only at this ⊢; omega), rfl⟩
    · exact ⟨.bff (decide_eq_false (by have := of_decide_eq_false h; dsimp only at this ⊢; omega)), rfl⟩
def ref_Right : Ctr := { A := Int × List (Int × Int), enc := fun t => [termS t], dom := fun _ => True, res := fun t _ => B (decide (right t)) }
set_option maxRecDepth 100000 in
set_option maxHeartbeats 4000000 in
theorem ref_Right_ok : CtrSound Try.prog 15 ref_Right :=
  ctr_of_ax (env_ok tys_ok (eqs := []) trivial (cs := [(25, ref_in)]) ⟨ref_in_ok, trivial⟩) mixed _ Try.func15 (by kernel_rfl) rfl (fun _ _ => Nat.le_of_ble_eq_true rfl) fun ((c, l) : Int × List (Int × Int)) id hd => by
    have bad : ¬ right (c, l) → Sub (B false) (B (decide (right (c, l)))) := fun h => .bool (decide_eq_false h).symm
    refine ⟨(c, -1099511627776, 1099511627776), ⟨.refl _, .refl _, .refl _, trivial⟩, rfl, trivial, fun h1 => ?_, fun h1 => ⟨fun h2 => ?_, fun h2 => ?_⟩⟩
    · exact ⟨.bff (decide_eq_false fun r => by simp at h1; have := r.1; have := r.2.1; simp at *; omega), rfl⟩
    · exact ⟨.bff (decide_eq_false fun r => by simp at h2; have := r.2.2.1; simp at *; omega), rfl⟩
    have hc : -1099511627776 ≤ c ∧ c ≤ 1099511627776 := by simpa using h1
    have hlen : l.length ≤ 40 := by simp at h2; omega
    refine ⟨Nat, fun i => [(1, .box 1 0), (3, I i)], fun _ => [(1, [I c, monos l])], fun i => i ≤ l.length ∧ ∀ j, j < i → good l j, fun i => l.length - i, ⟨0, ⟨Nat.zero_le _, fun j hj => by omega⟩, ⟨⟨rfl, rfl⟩, .refl _, .refl _, ⟨.refl _, .refl _, trivial⟩, trivial⟩⟩, fun (i : Nat) hi => ?_⟩
    have hil := hi.1
    have hwi : 0 < i → IntKind.i64.wrap ((i : Int) - 1) = ((i - 1 : Nat) : Int) := fun h => by rw [wrap_eq _ (by omega) (by omega)]; omega
    have hwj : IntKind.i64.wrap ((i : Int) + 1) = ((i + 1 : Nat) : Int) := by rw [wrap_eq _ (by omega) (by omega)]; omega
    have no : i < l.length → ¬ good l i → ¬ right (c, l) := fun hlt h r => h (r.2.2.2 i hlt)
    refine ⟨fun h => ?_, fun h => ?_⟩
    · have hlt : i < l.length := by have := of_decide_eq_true h; omega
      refine ⟨⟨by omega, by omega⟩, ?_⟩
      refine ⟨by kernel_rfl, ?_⟩
      refine ⟨((l.getD i (0, 0)).1, 0, 39), ⟨.refl _, .refl _, .refl _, trivial⟩, rfl, trivial, fun h3 => ?_, fun h3 => ?_⟩
      · have h3 : ¬ (0 ≤ (l.getD i (0, 0)).1 ∧ (l.getD i (0, 0)).1 ≤ 39) := of_decide_eq_false (ynot h3)
        exact ⟨.bff (decide_eq_false (no hlt fun g => h3 ⟨g.1, by have := g.2.1; omega⟩)), rfl⟩
      have h3 : 0 ≤ (l.getD i (0, 0)).1 ∧ (l.getD i (0, 0)).1 ≤ 39 := of_decide_eq_true (nnot h3)
      have last : ∀ (h4 : 0 < i → (l.getD (i - 1) (0, 0)).1 < (l.getD i (0, 0)).1), (¬ good l i → Sub .ff (B (decide (right (c, l))))) ∧ ((l.getD i (0, 0)).2 ≠ 0 → -1048576 ≤ (l.getD i (0, 0)).2 ∧ (l.getD i (0, 0)).2 ≤ 1048576 → good l i) := fun h4 =>
        ⟨fun g => .bff (decide_eq_false (no hlt g)), fun h6 h5 => ⟨h3.1, by omega, h4, h6, h5.1, h5.2⟩⟩
      refine ⟨?_, ?_⟩
      · skip
        intro h -- decide (↑i > 0) = true
        refine ⟨?_, ?_⟩
        · (rw [hwi (by have := of_decide_eq_true h; omega)]; omega)
        · skip
          refine ⟨?_, ?_⟩
          · skip
            intro h -- decide ((l.getD (↑i).toNat (0, 0)).fst ≤ (l.getD (IntKind.i64.wrap (↑i - 1)).toNat (0, 0)).fst) = true
            exact ⟨.bff (decide_eq_false (no hlt fun g => by have h8 := g.2.2.1 (by have := of_decide_eq_true ‹decide ((i : Int) > 0) = true›; omega); have := of_decide_eq_true h; rw [hwi (by have := of_decide_eq_true ‹decide ((i : Int) > 0) = true›; omega)] at this; simp only [Int.toNat_natCast] at this; omega)), rfl⟩
          · skip
            intro h -- decide ((l.getD (↑i).toNat (0, 0)).fst ≤ (l.getD (IntKind.i64.wrap (↑i - 1)).toNat (0, 0)).fst) = false
            refine ⟨((l.getD i (0, 0)).2, -1048576, 1048576), ⟨.refl _, .refl _, .refl _, trivial⟩, rfl, trivial, ?_⟩
            refine ⟨?_, ?_⟩
            · skip
              intro h -- (!decide (((l.getD i (0, 0)).snd, -1048576, 1048576).snd.fst ≤ ((l.getD i (0, 0)).snd, -1048576, 1048576).fst ∧ ((l.getD i (0, 0)).snd, -1048576, 1048576).fst ≤
              dsimp only at h
              exact ⟨.bff (decide_eq_false (no hlt fun g => of_decide_eq_false (ynot h) g.2.2.2.2)), rfl⟩
            · skip
              intro h -- (!decide (((l.getD i (0, 0)).snd, -1048576, 1048576).snd.fst ≤ ((l.getD i (0, 0)).snd, -1048576, 1048576).fst ∧ ((l.getD i (0, 0)).snd, -1048576, 1048576).fst ≤
              dsimp only at h
              refine ⟨?_, ?_⟩
              · skip
                intro h -- ((l.getD (↑i).toNat (0, 0)).snd == 0) = true
                exact ⟨.bff (decide_eq_false (no hlt fun g => g.2.2.2.1 (eq_of_beq h))), rfl⟩
              · skip
                intro h -- ((l.getD (↑i).toNat (0, 0)).snd == 0) = false
                exact ⟨i + 1, ⟨hlt, fun j hj => (Nat.lt_succ_iff_lt_or_eq.1 hj).elim (hi.2 j) fun e => e ▸ (last (fun hp => by have h9 := of_decide_eq_false ‹decide ((l.getD (↑i : Int).toNat (0, 0)).1 ≤ (l.getD (IntKind.i64.wrap ((i : Int) - 1)).toNat (0, 0)).1) = false›; rw [hwi hp] at h9; simp only [Int.toNat_natCast] at h9; omega)).2 (fun c => by rw [show (l.getD (↑i : Int).toNat (0, 0)).2 = 0 from c] at h; simp at h) (of_decide_eq_true (nnot ‹(!decide (-1048576 ≤ (l.getD i (0, 0)).2 ∧ (l.getD i (0, 0)).2 ≤ 1048576)) = false›))⟩, (by show l.length - (i + 1) < l.length - i; omega), ⟨rfl, rfl⟩, .refl _, .int hwj, ⟨.refl _, .refl _, trivial⟩, trivial⟩
      · skip
        intro h -- decide (↑i > 0) = false
        refine ⟨((l.getD i (0, 0)).2, -1048576, 1048576), ⟨.refl _, .refl _, .refl _, trivial⟩, rfl, trivial, ?_⟩
        refine ⟨?_, ?_⟩
        · skip
          intro h -- (!decide (((l.getD i (0, 0)).snd, -1048576, 1048576).snd.fst ≤ ((l.getD i (0, 0)).snd, -1048576, 1048576).fst ∧ ((l.getD i (0, 0)).snd, -1048576, 1048576).fst ≤
          dsimp only at h
          exact ⟨.bff (decide_eq_false (no hlt fun g => of_decide_eq_false (ynot h) g.2.2.2.2)), rfl⟩
        · skip
          intro h -- (!decide (((l.getD i (0, 0)).snd, -1048576, 1048576).snd.fst ≤ ((l.getD i (0, 0)).snd, -1048576, 1048576).fst ∧ ((l.getD i (0, 0)).snd, -1048576, 1048576).fst ≤
          dsimp only at h
          refine ⟨?_, ?_⟩
          · skip
            intro h -- ((l.getD (↑i).toNat (0, 0)).snd == 0) = true
            exact ⟨.bff (decide_eq_false (no hlt fun g => g.2.2.2.1 (eq_of_beq h))), rfl⟩
          · skip
            intro h -- ((l.getD (↑i).toNat (0, 0)).snd == 0) = false
            exact ⟨i + 1, ⟨hlt, fun j hj => (Nat.lt_succ_iff_lt_or_eq.1 hj).elim (hi.2 j) fun e => e ▸ (last (fun hp => by have h9 := of_decide_eq_false ‹decide ((i : Int) > 0) = false›; omega)).2 (fun c => by rw [show (l.getD (↑i : Int).toNat (0, 0)).2 = 0 from c] at h; simp at h) (of_decide_eq_true (nnot ‹(!decide (-1048576 ≤ (l.getD i (0, 0)).2 ∧ (l.getD i (0, 0)).2 ≤ 1048576)) = false›))⟩, (by show l.length - (i + 1) < l.length - i; omega), ⟨rfl, rfl⟩, .refl _, .int hwj, ⟨.refl _, .refl _, trivial⟩, trivial⟩
    · have hge : i = l.length := by have := of_decide_eq_false h; omega
      exact ⟨.btt (decide_eq_true ⟨hc.1, hc.2, hlen, fun j hj => hi.2 j (by dsimp only at hj; omega)⟩), rfl⟩
def Heavy13 : Ctr := { A := Int × List (Int × Int), enc := fun t => [termS t], dom := fun _ => True, res := fun t _ => B (decide (t.2.length > 60)) }
theorem Heavy13_ok : CtrSound Try.prog 14 Heavy13 :=
  ctr_of_ax (env_ok tys_ok (eqs := []) trivial (cs := []) trivial) mixed _ Try.func14 (by kernel_rfl) rfl (fun _ _ => Nat.le_of_ble_eq_true rfl) fun ((c, l) : Int × List (Int × Int)) id hd => by
    exact ⟨.bool (by rw [decide_eq_decide]; show (l.length : Int) > 60 ↔ l.length > 60; omega), rfl⟩
end Go.Proofs.Ytddcbnillkefhaa.Ax
