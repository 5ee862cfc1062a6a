/- Layer term by the logic: multiples. -/
import Derived.Test.YtddcbnillkefhaaTo
set_option linter.unusedVariables false
set_option linter.unusedSimpArgs false
namespace Go.Proofs.Ytddcbnillkefhaa.Ax
open Go Go.RowKit
def scL (k : Int) : List (Int × Int) → List (Int × Int) × Bool
  | [] => ([], true)
  | m :: r => (keep (m.1, (timesF m.2 k 1048576).1) (scL k r).1, (timesF m.2 k 1048576).2 && (scL k r).2)
def scaleF (t : Int × List (Int × Int)) (k : Int) : (Int × List (Int × Int)) × Int :=
  if right t then if (timesF t.1 k 1099511627776).2 && (scL k t.2).2 then (((timesF t.1 k 1099511627776).1, (scL k t.2).1), 0) else ((0, []), 12) else ((0, []), 1)
def term_Scale : Ctr := { A := (Int × List (Int × Int)) × Int, enc := fun x => [termS x.1, I x.2], dom := fun _ => True, res := fun x id => .tup [termO (scaleF x.1 x.2).1 id, I (scaleF x.1 x.2).2] }
set_option maxRecDepth 100000 in
set_option maxHeartbeats 4000000 in
theorem term_Scale_ok : CtrSound Try.prog 9 term_Scale :=
  ctr_of_ax (env_ok tys_ok (eqs := []) trivial (cs := [(20, term_Check), (21, term_times)]) ⟨term_Check_ok, term_times_ok, trivial⟩) mixed _ Try.func9 (by kernel_rfl) rfl (fun _ _ => Nat.le_of_ble_eq_true rfl) fun (((c, l), k) : (Int × List (Int × Int)) × Int) id hd => by
    have ck : ∀ t, (checkF t != 0) = true → ¬ right t := fun t h r => by simp [checkF, if_pos r] at h
    have ck' : ∀ t, (checkF t != 0) = false → right t := fun t h => Classical.byContradiction fun r => by simp [checkF, if_neg r] at h
    refine ⟨(c, l), ⟨.refl _, trivial⟩, rfl, trivial, fun h1 => ?_, fun h1 => ?_⟩
    · have e : scaleF (c, l) k = ((0, []), 1) := if_neg (ck _ h1)
      exact ⟨.tup2 (.agg2 (.int (by rw [e])) (by rw [e]; exact .nilO ..)) (.int (by rw [e])), rfl⟩
    have hr : right (c, l) := ck' _ h1
    have hlen : l.length ≤ 40 := hr.2.2.1
    refine ⟨(c, k, 1099511627776), ⟨.refl _, .refl _, .refl _, trivial⟩, rfl, (show (0 : Int) ≤ 1099511627776 ∧ (1099511627776 : Int) ≤ 1099511627776 by omega), ?_⟩
    generalize ht : timesF c k 1099511627776 = t0
    refine ⟨Nat × Bool × List (Int × Int), fun s => [(1, I k), (2, .box 2 0), (4, .box 4 0), (7, B s.2.1), (8, .box 8 0), (27, monos l), (28, I l.length), (29, I s.1)],
      fun s => [(2, [I c, monos l]), (4, [I 0, monos []]), (8, [I t0.1, monosO s.2.2 53])],
      fun s => s.1 ≤ l.length ∧ s.2.2 ++ (scL k (l.drop s.1)).1 = (scL k l).1 ∧ (s.2.1 && (scL k (l.drop s.1)).2) = (t0.2 && (scL k l).2) ∧ s.2.2.length ≤ s.1, fun s => l.length - s.1,
      ⟨(0, t0.2, []), ⟨Nat.zero_le _, rfl, rfl, Nat.le_refl _⟩, ⟨⟨rfl, rfl⟩, ?_⟩⟩, fun ((i, b, o) : Nat × Bool × List (Int × Int)) hi => ?_⟩
    · subst ht
      refine ⟨?_, ?_⟩
      · exact .refl _
      · skip
        refine ⟨?_, ?_⟩
        · exact .refl _
        · skip
          refine ⟨?_, ?_⟩
          · exact .refl _
          · skip
            refine ⟨?_, ?_⟩
            · exact .refl _
            · skip
              refine ⟨?_, ?_⟩
              · exact .refl _
              · skip
                refine ⟨?_, ?_⟩
                · exact .refl _
                · skip
                  refine ⟨?_, ?_⟩
                  · exact .refl _
                  · skip
                    refine ⟨?_, ?_⟩
                    · exact .refl _
                    · skip
                      refine ⟨?_, ?_⟩
                      · exact ⟨.refl _, .refl _, trivial⟩
                      · skip
                        refine ⟨?_, ?_⟩
                        · exact ⟨.refl _, .nil .., trivial⟩
                        · skip
                          refine ⟨?_, ?_⟩
                          · exact ⟨.refl _, .nilO .., trivial⟩
                          · skip
                            exact trivial
    have hil : i ≤ l.length := hi.1
    have hk : o ++ (scL k (l.drop i)).1 = (scL k l).1 := hi.2.1
    have hb : (b && (scL k (l.drop i)).2) = (t0.2 && (scL k l).2) := hi.2.2.1
    have hn : o.length ≤ i := hi.2.2.2
    have hwj : IntKind.i64.wrap ((i : Int) + 1) = ((i + 1 : Nat) : Int) := by rw [wrap_eq _ (by omega) (by omega)]; omega
    refine ⟨fun h => ?_, fun h => ?_⟩
    · have hlt : i < l.length := by have := of_decide_eq_true h; omega
      rw [drop_at (0, 0) l i hlt, scL] at hk hb
      refine ⟨⟨by omega, by omega⟩, ?_⟩
      refine ⟨((l.getD i (0, 0)).2, k, 1048576), ⟨.refl _, .refl _, .refl _, trivial⟩, rfl, (show (0 : Int) ≤ 1048576 ∧ (1048576 : Int) ≤ 1099511627776 by omega), ?_⟩
      cases b
      · refine ⟨?_, ?_⟩
        · skip
          intro h -- (i, false, o).snd.fst = true
          (exact Bool.noConfusion h)
        · skip
          intro h -- (i, false, o).snd.fst = false
          refine ⟨?_, ?_⟩
          · skip
            intro h -- ((timesF ((l.getD i (0, 0)).snd, k, 1048576).fst ((l.getD i (0, 0)).snd, k, 1048576).snd.fst ((l.getD i (0, 0)).snd, k, 1048576).snd.snd).fst != 0) = true
            refine ⟨Int × Int, monoC, (0, 0), [((l.getD i (0, 0)).1, (timesF (l.getD i (0, 0)).2 k 1048576).1)], ⟨rfl, fun _ => rfl⟩, ⟨.refl _, .refl _, trivial⟩, rfl, ?_⟩
            refine ⟨Int × Int, monoC, (0, 0), o, [((l.getD i (0, 0)).1, (timesF (l.getD i (0, 0)).2 k 1048576).1)], 53, ⟨.refl _, .own ..⟩, fun _ => rfl, (by simp only [List.length_cons, List.length_nil]; omega), ?_⟩
            exact ⟨(i + 1, false, o ++ [((l.getD i (0, 0)).1, (timesF (l.getD i (0, 0)).2 k 1048576).1)]), ⟨hlt, keep_t h hk, (by simpa using hb), (by simp only [List.length_append, List.length_cons, List.length_nil]; omega)⟩, by show l.length - (i + 1) < l.length - i; omega, ⟨rfl, rfl⟩, .refl _, .ff, .refl _, .int hwj, .refl _, .refl _, .refl _, .refl _, ⟨.refl _, .refl _, trivial⟩, ⟨.refl _, .refl _, trivial⟩, ⟨.refl _, .refl _, trivial⟩, trivial⟩
          · skip
            intro h -- ((timesF ((l.getD i (0, 0)).snd, k, 1048576).fst ((l.getD i (0, 0)).snd, k, 1048576).snd.fst ((l.getD i (0, 0)).snd, k, 1048576).snd.snd).fst != 0) = false
            exact ⟨(i + 1, false, o), ⟨hlt, keep_f h hk, (by simpa using hb), Nat.le_succ_of_le hn⟩, by show l.length - (i + 1) < l.length - i; omega, ⟨rfl, rfl⟩, .refl _, .ff, .refl _, .int hwj, .refl _, .refl _, .refl _, .refl _, ⟨.refl _, .refl _, trivial⟩, ⟨.refl _, .refl _, trivial⟩, ⟨.refl _, .refl _, trivial⟩, trivial⟩
      · refine ⟨?_, ?_⟩
        · skip
          intro h -- (i, true, o).snd.fst = true
          refine ⟨?_, ?_⟩
          · skip
            intro h -- ((timesF ((l.getD i (0, 0)).snd, k, 1048576).fst ((l.getD i (0, 0)).snd, k, 1048576).snd.fst ((l.getD i (0, 0)).snd, k, 1048576).snd.snd).fst != 0) = true
            refine ⟨Int × Int, monoC, (0, 0), [((l.getD i (0, 0)).1, (timesF (l.getD i (0, 0)).2 k 1048576).1)], ⟨rfl, fun _ => rfl⟩, ⟨.refl _, .refl _, trivial⟩, rfl, ?_⟩
            refine ⟨Int × Int, monoC, (0, 0), o, [((l.getD i (0, 0)).1, (timesF (l.getD i (0, 0)).2 k 1048576).1)], 53, ⟨.refl _, .own ..⟩, fun _ => rfl, (by simp only [List.length_cons, List.length_nil]; omega), ?_⟩
            exact ⟨(i + 1, (timesF (l.getD i (0, 0)).2 k 1048576).2, o ++ [((l.getD i (0, 0)).1, (timesF (l.getD i (0, 0)).2 k 1048576).1)]), ⟨hlt, keep_t h hk, (by simpa using hb), (by simp only [List.length_append, List.length_cons, List.length_nil]; omega)⟩, by show l.length - (i + 1) < l.length - i; omega, ⟨rfl, rfl⟩, .refl _, .refl _, .refl _, .int hwj, .refl _, .refl _, .refl _, .refl _, ⟨.refl _, .refl _, trivial⟩, ⟨.refl _, .refl _, trivial⟩, ⟨.refl _, .refl _, trivial⟩, trivial⟩
          · skip
            intro h -- ((timesF ((l.getD i (0, 0)).snd, k, 1048576).fst ((l.getD i (0, 0)).snd, k, 1048576).snd.fst ((l.getD i (0, 0)).snd, k, 1048576).snd.snd).fst != 0) = false
            exact ⟨(i + 1, (timesF (l.getD i (0, 0)).2 k 1048576).2, o), ⟨hlt, keep_f h hk, (by simpa using hb), Nat.le_succ_of_le hn⟩, by show l.length - (i + 1) < l.length - i; omega, ⟨rfl, rfl⟩, .refl _, .refl _, .refl _, .int hwj, .refl _, .refl _, .refl _, .refl _, ⟨.refl _, .refl _, trivial⟩, ⟨.refl _, .refl _, trivial⟩, ⟨.refl _, .refl _, trivial⟩, trivial⟩
        · skip
          intro h -- (i, true, o).snd.fst = false
          (exact Bool.noConfusion h)
    · have hge : i = l.length := by have := of_decide_eq_false h; omega
      subst hge
      rw [List.drop_length, scL] at hk hb
      simp only [List.append_nil, Bool.and_true] at hk hb
      have e1 : b = true → scaleF (c, l) k = ((t0.1, o), 0) := fun h => by
        unfold scaleF; rw [if_pos hr, ht, ← hb, h, if_pos rfl, hk]
      have e2 : b = false → scaleF (c, l) k = ((0, []), 12) := fun h => by
        unfold scaleF; rw [if_pos hr, ht, ← hb, h]; rfl
      refine ⟨?_, ?_⟩
      · skip
        intro h -- (!(l.length, b, o).snd.fst) = true
        exact ⟨.tup2 (.agg2 (.int (by rw [e2 (by simpa using h)])) (by rw [e2 (by simpa using h)]; exact .nilO ..)) (.int (by rw [e2 (by simpa using h)])), rfl⟩
      · skip
        intro h -- (!(l.length, b, o).snd.fst) = false
        exact ⟨.tup2 (.agg2 (.int (by rw [e1 (by simpa using h)])) (Sub.ownEq (by rw [e1 (by simpa using h)]))) (.int (by rw [e1 (by simpa using h)])), rfl⟩
end Go.Proofs.Ytddcbnillkefhaa.Ax
