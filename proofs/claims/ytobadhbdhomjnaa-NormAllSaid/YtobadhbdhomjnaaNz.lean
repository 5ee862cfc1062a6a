/- Layer norm by the logic: NormAll. -/
import Derived.Test.YtobadhbdhomjnaaNy
import Derived.Test.YtobadhbdhomjnaaSh
set_option linter.unusedVariables false
set_option linter.unusedSimpArgs false
namespace Go.Proofs.Ytobadhbdhomjnaa.Ax
open Go Go.RowKit
def NormAll : Ctr := { A := List CC × List Int, enc := fun x => [conses x.1, ints x.2], dom := fun x => sh39.ok x.1 ∧ sh45.ok x.2, res := fun _ _ => .tt }
set_option maxRecDepth 100000 in
set_option maxHeartbeats 4000000 in
theorem NormAll_ok : CtrSound Try.prog 8 NormAll :=
  ctr_of_ax (env_ok tys_ok (eqs := []) trivial (cs := [(15, Heavy14), (21, ref_Told), (17, norm_All), (20, norm_Holds), (19, keep_Cons), (12, wakes14)]) ⟨Heavy14_ok, ref_Told_ok, norm_All_ok, norm_Holds_ok, keep_Cons_ok, wakes14_ok, trivial⟩) mixed _ Try.func8 (by kernel_rfl) rfl (fun _ _ => Nat.le_of_ble_eq_true rfl) fun ((l, v) : List CC × List Int) id hd => by
    have hv : v.length ≤ 4611686018427387904 := by
      have : v.length * 8 ≤ 140737488351232 := hd.2.1
      omega
    have hl0 : l.length ≤ 4611686018427387904 := by
      have : l.length * 40 ≤ 140737488351232 := hd.1.1
      omega
    clear hd
    refine ⟨l, ⟨.refl _, trivial⟩, rfl, hl0, fun h1 => ?_, fun h1 => ?_⟩
    · exact ⟨.refl _, rfl⟩
    have hl : l.length ≤ 60 := by
      have h1 : (decide (l.length > 60) || l.any fun c => decide (c.1.2.length > 60)) = false := h1
      rw [Bool.or_eq_false_iff] at h1
      have := of_decide_eq_false h1.1
      omega
    refine ⟨fun h2 => ?_, fun h2 => ?_⟩
    · exact ⟨.refl _, rfl⟩
    refine ⟨Nat × Bool, fun s => [(0, conses l), (1, ints v), (5, B s.2), (6, I s.1)], fun _ => [], fun s => s.1 ≤ l.length ∧ (∀ j, j < s.1 → (valueF (l.getD j ((0, []), false)).1 v).2 = 0) ∧ (s.2 && (l.drop s.1).all (fun c => (holdsF c v).1)) = l.all (fun c => (holdsF c v).1), fun s => l.length - s.1,
      ⟨(0, true), ⟨Nat.zero_le _, fun j hj => absurd hj (Nat.not_lt_zero _), rfl⟩, ⟨⟨rfl, rfl⟩, ?_⟩⟩, fun ((i, b) : Nat × Bool) hi => ?_⟩
    · refine ⟨?_, ?_⟩
      · exact .refl _
      · skip
        refine ⟨?_, ?_⟩
        · exact .refl _
        · skip
          refine ⟨?_, ?_⟩
          · exact .tt
          · skip
            refine ⟨?_, ?_⟩
            · exact .refl _
            · skip
              exact trivial
    have hil : i ≤ l.length := hi.1
    have hok : ∀ j, j < i → (valueF (l.getD j ((0, []), false)).1 v).2 = 0 := hi.2.1
    have hb : (b && (l.drop i).all (fun c => (holdsF c v).1)) = l.all (fun c => (holdsF c v).1) := hi.2.2
    have hwj : IntKind.i64.wrap ((i : Int) + 1) = ((i + 1 : Nat) : Int) := by rw [wrap_eq _ (by omega) (by omega)]; omega
    refine ⟨fun h => ?_, fun h => ?_⟩
    · have hlt : i < l.length := of_decide_lt h
      rw [drop_at ((0, []), false) l i hlt, List.all_cons] at hb
      refine ⟨⟨by omega, by dsimp only; omega⟩, ?_⟩
      refine ⟨(l.getD i ((0, []), false), v), ⟨.agg3 (.refl _) (.refl _) (.refl _), .refl _, trivial⟩, rfl, hv, fun h3 => ?_, fun h3 => ?_⟩
      · refine ⟨⟨by omega, by dsimp only; omega⟩, ?_⟩
        refine ⟨((l.getD i ((0, []), false)).1, v), ⟨.agg2 (.refl _) (.refl _), .refl _, trivial⟩, rfl, hv, ?_⟩
        exact ⟨.toTT (by
          have h3 : ((holdsF (l.getD i ((0, []), false)) v).2 != 0) = true := h3
          show ((valueF (l.getD i ((0, []), false)).1 v).2 != 0) = true
          by_cases z : (valueF (l.getD i ((0, []), false)).1 v).2 = 0
          · unfold holdsF at h3; rw [if_pos z] at h3; simp at h3
          · simpa using z), rfl⟩
      have h4 : (valueF (l.getD i ((0, []), false)).1 v).2 = 0 := by
        have h3 : ((holdsF (l.getD i ((0, []), false)) v).2 != 0) = false := h3
        by_cases z : (valueF (l.getD i ((0, []), false)).1 v).2 = 0
        · exact z
        · unfold holdsF at h3; rw [if_neg z] at h3; simpa using h3
      have hok2 : ∀ j, j < i + 1 → (valueF (l.getD j ((0, []), false)).1 v).2 = 0 := fun j hj => by
        rcases Nat.lt_succ_iff_lt_or_eq.1 hj with q | rfl
        · exact hok j q
        · exact h4
      cases b
      · refine ⟨?_, ?_⟩
        · skip
          intro h -- (i, false).snd = true
          dsimp only at h
          (exact Bool.noConfusion h)
        · skip
          intro h -- (i, false).snd = false
          dsimp only at h
          exact ⟨(i + 1, false), ⟨hlt, hok2, hb⟩, by show l.length - (i + 1) < l.length - i; omega, ⟨rfl, rfl⟩, .refl _, .refl _, .ff, .int hwj, trivial⟩
      · refine ⟨?_, ?_⟩
        · skip
          intro h -- (i, true).snd = true
          dsimp only at h
          exact ⟨(i + 1, (holdsF (l.getD i ((0, []), false)) v).1), ⟨hlt, hok2, by simpa using hb⟩, by show l.length - (i + 1) < l.length - i; omega, ⟨rfl, rfl⟩, .refl _, .refl _, .refl _, .int hwj, trivial⟩
        · skip
          intro h -- (i, true).snd = false
          dsimp only at h
          (exact Bool.noConfusion h)
    have hge : i = l.length := of_decide_ge h hil
    subst hge
    rw [List.drop_length, List.all_nil, Bool.and_true] at hb
    have hall : ∀ c ∈ l, (valueF c.1 v).2 = 0 := fun c hc => by
      refine Exists.elim (List.getElem_of_mem hc) fun j q => Exists.elim q fun hj e => ?_
      have := hok j hj
      rw [show l.getD j ((0, []), false) = l[j] from by simp [List.getD, hj], e] at this
      exact this
    have F := all_facts hall
    have g1 := F.1
    have g2 := F.2.1
    have g3 := F.2.2.1
    have g4 := F.2.2.2.1
    have g5 := F.2.2.2.2.1
    have g6 := F.2.2.2.2.2
    clear F
    subst hb
    refine ⟨l, ⟨.refl _, trivial⟩, rfl, (show l.length ≤ 1000000 by omega), fun h3 => ?_, fun h3 => ⟨fun h4 => ?_, fun h4 => ⟨fun h5 => ?_, fun h5 => ⟨fun h6 => ?_, fun h6 => ?_⟩⟩⟩⟩
    · exact absurd (show ((allF l).2.2 != 0) = true from h3) (by rw [g1]; decide)
    · exact absurd (of_decide_eq_true h4) (by omega)
    · have w := g3 (eq_of_beq h5)
      refine ⟨?_, ?_⟩
      · skip
        intro h -- (!(l.length, l.all fun c => (holdsF c v).fst).snd) = true
        dsimp only at h
        refine ⟨?_, ?_⟩
        · skip
          intro h -- (↑(allF l).fst.length == 0) = true
          refine ⟨(), trivial, rfl, trivial, ?_⟩
          exact ⟨.refl _, rfl⟩
        · skip
          intro h -- (↑(allF l).fst.length == 0) = false
          (rw [w.2] at h; simp at h; done)
      · skip
        intro h -- (!(l.length, l.all fun c => (holdsF c v).fst).snd) = false
        dsimp only at h
        (rw [w.1] at h; simp at h; done)
    · have w := g4 (eq_of_beq h6)
      refine ⟨?_, ?_⟩
      · skip
        intro h -- (l.length, l.all fun c => (holdsF c v).fst).snd = true
        dsimp only at h
        refine ⟨?_, ?_⟩
        · skip
          intro h -- (↑(allF l).fst.length == 0) = true
          refine ⟨(), trivial, rfl, trivial, ?_⟩
          exact ⟨.refl _, rfl⟩
        · skip
          intro h -- (↑(allF l).fst.length == 0) = false
          (rw [w.2] at h; simp at h; done)
      · skip
        intro h -- (l.length, l.all fun c => (holdsF c v).fst).snd = false
        dsimp only at h
        (rw [w.1] at h; simp at h; done)
    have h5 : ((allF l).2.1 == 1) = false := h5
    have h6 : ((allF l).2.1 == 2) = false := h6
    have w := g5 (by simpa using h5) (by simpa using h6)
    have w1 := w.1
    have w2 := w.2.1
    have w3 := w.2.2
    clear w g3 g4 g5
    refine ⟨Nat × Bool, fun s => [(1, ints v), (5, B (l.all fun c => (holdsF c v).1)), (9, conses (allF l).1), (12, B s.2), (13, I s.1)], fun _ => [], fun s => s.1 ≤ (allF l).1.length ∧ (s.2 && ((allF l).1.drop s.1).all (fun c => (holdsF c v).1)) = (allF l).1.all (fun c => (holdsF c v).1), fun s => (allF l).1.length - s.1,
      ⟨(0, true), ⟨Nat.zero_le _, rfl⟩, ⟨⟨rfl, rfl⟩, ?_⟩⟩, fun ((i, b) : Nat × Bool) hi => ?_⟩
    · refine ⟨?_, ?_⟩
      · exact .refl _
      · skip
        refine ⟨?_, ?_⟩
        · exact .refl _
        · skip
          refine ⟨?_, ?_⟩
          · exact .own ..
          · skip
            refine ⟨?_, ?_⟩
            · exact .refl _
            · skip
              refine ⟨?_, ?_⟩
              · exact .tt
              · skip
                exact trivial
    have hil : i ≤ (allF l).1.length := hi.1
    have hb : (b && ((allF l).1.drop i).all (fun c => (holdsF c v).1)) = (allF l).1.all (fun c => (holdsF c v).1) := hi.2
    have hwj : IntKind.i64.wrap ((i : Int) + 1) = ((i + 1 : Nat) : Int) := by rw [wrap_eq _ (by omega) (by omega)]; omega
    refine ⟨fun h => ?_, fun h => ?_⟩
    · have hlt : i < (allF l).1.length := of_decide_lt h
      rw [drop_at ((0, []), false) (allF l).1 i hlt, List.all_cons] at hb
      have hx := w1 _ (getD_mem (allF l).1 i ((0, []), false) hlt)
      refine ⟨⟨by omega, by dsimp only; omega⟩, ?_⟩
      refine ⟨((allF l).1.getD i ((0, []), false), v), ⟨.agg3 (.refl _) (.refl _) (.refl _), .refl _, trivial⟩, rfl, hv, fun h3 => ?_, fun h3 => ?_⟩
      · exact absurd (show ((holdsF ((allF l).1.getD i ((0, []), false)) v).2 != 0) = true from h3) (by rw [hx]; decide)
      cases b
      · refine ⟨?_, ?_⟩
        · skip
          intro h -- (i, false).snd = true
          dsimp only at h
          (exact Bool.noConfusion h)
        · skip
          intro h -- (i, false).snd = false
          dsimp only at h
          exact ⟨(i + 1, false), ⟨hlt, hb⟩, by show (allF l).1.length - (i + 1) < (allF l).1.length - i; omega, ⟨rfl, rfl⟩, .refl _, .refl _, .refl _, .int hwj, .ff, trivial⟩
      · refine ⟨?_, ?_⟩
        · skip
          intro h -- (i, true).snd = true
          dsimp only at h
          exact ⟨(i + 1, (holdsF ((allF l).1.getD i ((0, []), false)) v).1), ⟨hlt, by simpa using hb⟩, by show (allF l).1.length - (i + 1) < (allF l).1.length - i; omega, ⟨rfl, rfl⟩, .refl _, .refl _, .refl _, .int hwj, .refl _, trivial⟩
        · skip
          intro h -- (i, true).snd = false
          dsimp only at h
          (exact Bool.noConfusion h)
    have hge : i = (allF l).1.length := of_decide_ge h hil
    subst hge
    rw [List.drop_length, List.all_nil, Bool.and_true, w2] at hb
    refine ⟨(allF l).1, ⟨.refl _, trivial⟩, rfl, (show (allF l).1.length ≤ 1000000 by omega), ?_⟩
    refine ⟨?_, ?_⟩
    · skip
      intro h -- (((allF l).fst.length, b).snd == l.all fun c => (holdsF c v).fst) = true
      dsimp only at h
      refine ⟨?_, ?_⟩
      · skip
        intro h -- ((allF (allF l).fst).snd.snd == 0) = true
        refine ⟨?_, ?_⟩
        · skip
          intro h -- ((allF (allF l).fst).snd.fst == 0) = true
          refine ⟨((allF l).1, (allF (allF l).1).1), ⟨.refl _, .own .., trivial⟩, rfl, (show (allF l).1.length ≤ 4611686018427387904 ∧ _ from ⟨by omega, fun y hy => by have := g6 y hy; omega⟩), ?_⟩
          refine ⟨?_, ?_⟩
          · skip
            intro h -- decide (((allF l).fst, (allF (allF l).fst).fst).fst = ((allF l).fst, (allF (allF l).fst).fst).snd) = true
            dsimp only at h
            refine ⟨(), trivial, rfl, trivial, ?_⟩
            exact ⟨.refl _, rfl⟩
          · skip
            intro h -- decide (((allF l).fst, (allF (allF l).fst).fst).fst = ((allF l).fst, (allF (allF l).fst).fst).snd) = false
            dsimp only at h
            (rw [w3] at h; simp at h; done)
        · skip
          intro h -- ((allF (allF l).fst).snd.fst == 0) = false
          (rw [w3] at h; simp at h; done)
      · skip
        intro h -- ((allF (allF l).fst).snd.snd == 0) = false
        (rw [w3] at h; simp at h; done)
    · skip
      intro h -- (((allF l).fst.length, b).snd == l.all fun c => (holdsF c v).fst) = false
      dsimp only at h
      (rw [hb] at h; simp at h; done)
end Go.Proofs.Ytobadhbdhomjnaa.Ax
