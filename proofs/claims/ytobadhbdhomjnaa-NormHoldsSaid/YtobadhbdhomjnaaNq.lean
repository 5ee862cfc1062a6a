/- Layer norm by the logic: NormHolds. -/
import Derived.Test.YtobadhbdhomjnaaNp
import Derived.Test.YtobadhbdhomjnaaSh
set_option linter.unusedVariables false
set_option linter.unusedSimpArgs false
namespace Go.Proofs.Ytobadhbdhomjnaa.Ax
open Go Go.RowKit
def NormHolds : Ctr := { A := ((Int × List (Int × Int)) × Bool) × List Int, enc := fun x => [consS x.1, ints x.2], dom := fun x => sh26.ok x.1 ∧ sh45.ok x.2, res := fun _ _ => .tt }
set_option maxRecDepth 100000 in
set_option maxHeartbeats 4000000 in
theorem NormHolds_ok : CtrSound Try.prog 7 NormHolds :=
  ctr_of_ax (env_ok tys_ok (eqs := []) trivial (cs := [(9, Heavy13), (21, ref_Told), (13, norm_One), (20, norm_Holds), (12, wakes14)]) ⟨Heavy13_ok, ref_Told_ok, norm_One_ok, norm_Holds_ok, wakes14_ok, trivial⟩) mixed _ Try.func7 (by kernel_rfl) rfl (fun _ _ => Nat.le_of_ble_eq_true rfl) fun (((t, e), v) : ((Int × List (Int × Int)) × Bool) × List Int) id hd => by
    have hv : v.length ≤ 4611686018427387904 := by
      have : v.length * 8 ≤ 140737488351232 := hd.2.1
      omega
    have hf : (valueF t v).2 = 0 → _ := fun h => holds_short (c := (t, e)) (v := v) h
    have hk : ∀ x, ((valueF t v).2 != 0) = x → x = false → (valueF t v).2 = 0 := fun x h h2 => by rw [h2] at h; simpa using h
    have e1 : ((valueF t v).2 != 0) = false → ((holdsF (t, e) v).2 != 0) = false := fun h => by rw [(hf (hk _ h rfl)).1]; rfl
    have e2 : ((valueF t v).2 != 0) = false → ((oneF (t, e)).2.2 != 0) = false := fun h => by rw [(hf (hk _ h rfl)).2.1]; rfl
    have e3 : ((valueF t v).2 != 0) = false → ((oneF (t, e)).2.1 == 2) = true → (holdsF (t, e) v).1 = true := fun h h2 => (hf (hk _ h rfl)).2.2.1 (eq_of_beq h2)
    have e4 : ((valueF t v).2 != 0) = false → ((oneF (t, e)).2.1 == 1) = true → (holdsF (t, e) v).1 = false := fun h h2 => (hf (hk _ h rfl)).2.2.2.1 (eq_of_beq h2)
    have e5 : ((valueF t v).2 != 0) = false → ((oneF (t, e)).2.1 == 2) = false → ((oneF (t, e)).2.1 == 1) = false → holdsF (oneF (t, e)).1 v = ((holdsF (t, e) v).1, 0) := fun h h2 h3 => by
      have g := hf (hk _ h rfl)
      rcases g.2.2.2.2.2 with w | w | w
      · exact g.2.2.2.2.1 w
      · rw [w] at h3; simp at h3
      · rw [w] at h2; simp at h2
    clear hf hk
    refine ⟨t, ⟨.agg2 (.refl _) (.refl _), trivial⟩, rfl, trivial, ?_⟩
    refine ⟨?_, ?_⟩
    · skip
      intro h -- decide (t.snd.length > 60) = true
      exact ⟨.refl _, rfl⟩
    · skip
      intro h -- decide (t.snd.length > 60) = false
      refine ⟨?_, ?_⟩
      · skip
        intro h -- decide (↑((t, e), v).snd.length > 80) = true
        dsimp only at h
        exact ⟨.refl _, rfl⟩
      · skip
        intro h -- decide (↑((t, e), v).snd.length > 80) = false
        dsimp only at h
        refine ⟨(t, v), ⟨.agg2 (.refl _) (.refl _), .refl _, trivial⟩, rfl, hv, ?_⟩
        refine ⟨?_, ?_⟩
        · skip
          intro h -- ((valueF (t, v).fst (t, v).snd).snd != 0) = true
          dsimp only at h
          exact ⟨.refl _, rfl⟩
        · skip
          intro h -- ((valueF (t, v).fst (t, v).snd).snd != 0) = false
          dsimp only at h
          refine ⟨((t, e), v), ⟨.agg3 (.refl _) (.refl _) (.refl _), .refl _, trivial⟩, rfl, hv, ?_⟩
          refine ⟨(t, e), ⟨.agg3 (.refl _) (.refl _) (.refl _), trivial⟩, rfl, trivial, ?_⟩
          refine ⟨?_, ?_⟩
          · skip
            intro h -- ((holdsF ((t, e), v).fst ((t, e), v).snd).snd != 0) = true
            dsimp only at h
            exact Bool.noConfusion (h.symm.trans (e1 ‹((valueF t v).2 != 0) = false›))
          · skip
            intro h -- ((holdsF ((t, e), v).fst ((t, e), v).snd).snd != 0) = false
            dsimp only at h
            refine ⟨?_, ?_⟩
            · skip
              intro h -- ((oneF (t, e)).snd.snd != 0) = true
              exact Bool.noConfusion (h.symm.trans (e2 ‹((valueF t v).2 != 0) = false›))
            · skip
              intro h -- ((oneF (t, e)).snd.snd != 0) = false
              refine ⟨?_, ?_⟩
              · skip
                intro h -- ((oneF (t, e)).snd.fst == 2) = true
                refine ⟨?_, ?_⟩
                · skip
                  intro h -- (holdsF ((t, e), v).fst ((t, e), v).snd).fst = true
                  dsimp only at h
                  refine ⟨(), trivial, rfl, trivial, ?_⟩
                  exact ⟨.refl _, rfl⟩
                · skip
                  intro h -- (holdsF ((t, e), v).fst ((t, e), v).snd).fst = false
                  dsimp only at h
                  exact Bool.noConfusion (h.symm.trans (e3 ‹((valueF t v).2 != 0) = false› ‹((oneF (t, e)).2.1 == 2) = true›))
              · skip
                intro h -- ((oneF (t, e)).snd.fst == 2) = false
                refine ⟨?_, ?_⟩
                · skip
                  intro h -- ((oneF (t, e)).snd.fst == 1) = true
                  refine ⟨?_, ?_⟩
                  · skip
                    intro h -- (!(holdsF ((t, e), v).fst ((t, e), v).snd).fst) = true
                    dsimp only at h
                    refine ⟨(), trivial, rfl, trivial, ?_⟩
                    exact ⟨.refl _, rfl⟩
                  · skip
                    intro h -- (!(holdsF ((t, e), v).fst ((t, e), v).snd).fst) = false
                    dsimp only at h
                    (rw [e4 ‹((valueF t v).2 != 0) = false› ‹((oneF (t, e)).2.1 == 1) = true›] at h; simp at h; done)
                · skip
                  intro h -- ((oneF (t, e)).snd.fst == 1) = false
                  refine ⟨((oneF (t, e)).1, v), ⟨.agg3 (.refl _) (.own ..) (.refl _), .refl _, trivial⟩, rfl, hv, ?_⟩
                  refine ⟨?_, ?_⟩
                  · skip
                    intro h -- ((holdsF ((oneF (t, e)).fst, v).fst ((oneF (t, e)).fst, v).snd).snd == 0) = true
                    dsimp only at h
                    refine ⟨?_, ?_⟩
                    · skip
                      intro h -- ((holdsF ((oneF (t, e)).fst, v).fst ((oneF (t, e)).fst, v).snd).fst == (holdsF ((t, e), v).fst ((t, e), v).snd).fst) = true
                      dsimp only at h
                      refine ⟨(), trivial, rfl, trivial, ?_⟩
                      exact ⟨.refl _, rfl⟩
                    · skip
                      intro h -- ((holdsF ((oneF (t, e)).fst, v).fst ((oneF (t, e)).fst, v).snd).fst == (holdsF ((t, e), v).fst ((t, e), v).snd).fst) = false
                      dsimp only at h
                      (rw [e5 ‹((valueF t v).2 != 0) = false› ‹((oneF (t, e)).2.1 == 2) = false› ‹((oneF (t, e)).2.1 == 1) = false›] at h; simp at h; done)
                  · skip
                    intro h -- ((holdsF ((oneF (t, e)).fst, v).fst ((oneF (t, e)).fst, v).snd).snd == 0) = false
                    dsimp only at h
                    (rw [e5 ‹((valueF t v).2 != 0) = false› ‹((oneF (t, e)).2.1 == 2) = false› ‹((oneF (t, e)).2.1 == 1) = false›] at h; simp at h; done)
end Go.Proofs.Ytobadhbdhomjnaa.Ax
