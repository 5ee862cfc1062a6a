/- Layer term by the logic: Put. -/
import Derived.Test.YtddcbnillkefhaaPb
set_option linter.unusedVariables false
set_option linter.unusedSimpArgs false
namespace Go.Proofs.Ytddcbnillkefhaa.Ax
open Go Go.RowKit
def putF (a : Int × List (Int × Int)) (v : Int) (b : Int × List (Int × Int)) : (Int × List (Int × Int)) × Int :=
  if right a ∧ right b then if (scaleF b (kF a.2 v)).2 = 0 then addF (a.1, dlF v a.2) (scaleF b (kF a.2 v)).1 else ((0, []), (scaleF b (kF a.2 v)).2) else ((0, []), 1)
def term_Put : Ctr := { A := (Int × List (Int × Int)) × Int × (Int × List (Int × Int)), enc := fun x => [termS x.1, I x.2.1, termS x.2.2], dom := fun _ => True, res := fun x _ => .tup [termS (putF x.1 x.2.1 x.2.2).1, I (putF x.1 x.2.1 x.2.2).2] }
set_option maxRecDepth 100000 in
set_option maxHeartbeats 4000000 in
theorem term_Put_ok : CtrSound Try.prog 18 term_Put :=
  ctr_of_ax (env_okB tys_ok (eqs := []) trivial (cs := [(20, term_Check), (12, term_K), (9, term_Scale), (10, term_Add)]) ⟨term_Check_ok, term_K_ok, term_Scale_ok, term_Add_ok, trivial⟩ (bs := [(30, p_Twin), (31, p_Del)]) ⟨p_Twin_ok, p_Del_ok, trivial⟩ (vec := [41]) (cut := [7, 8])) mixed _ Try.func18 (by kernel_rfl) rfl (fun _ _ => Nat.le_of_ble_eq_true rfl) fun ((a, v, b) : (Int × List (Int × Int)) × Int × (Int × List (Int × Int))) id hd => by
    have ck : ∀ t, (checkF t != 0) = true → ¬ right t := fun t h r => by simp [checkF, if_pos r] at h
    have ck' : ∀ t, (checkF t != 0) = false → right t := fun t h => Classical.byContradiction fun r => by simp [checkF, if_neg r] at h
    have bad : ¬ (right a ∧ right b) → putF a v b = ((0, []), 1) := fun h => if_neg h
    refine ⟨a, ⟨.refl _, trivial⟩, rfl, trivial, fun h1 => ?_, fun h1 => ?_⟩
    · have e := bad (fun c => ck a h1 c.1)
      exact ⟨.tup2 (.agg2 (.int (by rw [e])) (by rw [e]; exact .nil ..)) (.int (by rw [e])), rfl⟩
    refine ⟨b, ⟨.refl _, trivial⟩, rfl, trivial, fun h2 => ?_, fun h2 => ?_⟩
    · have e := bad (fun c => ck b h2 c.2)
      exact ⟨.tup2 (.agg2 (.int (by rw [e])) (by rw [e]; exact .nil ..)) (.int (by rw [e])), rfl⟩
    have ha := ck' a h1
    have hb := ck' b h2
    have hla : a.2.length ≤ 40 := ha.2.2.1
    have m1 : ((scaleF b (kF a.2 v)).2 != 0) = true → putF a v b = ((0, []), (scaleF b (kF a.2 v)).2) := fun h => by unfold putF; rw [if_pos ⟨ha, hb⟩, if_neg (by simpa using h)]
    have m2 : ((scaleF b (kF a.2 v)).2 != 0) = false → putF a v b = addF (a.1, dlF v a.2) (scaleF b (kF a.2 v)).1 := fun h => by unfold putF; rw [if_pos ⟨ha, hb⟩, if_pos (by simpa using h)]
    refine ⟨by kernel_rfl, ?_⟩
    refine ⟨(a, v), ⟨.refl _, .refl _, trivial⟩, rfl, (show a.2.length ≤ 1000000000 by omega), ?_⟩
    refine ⟨(b, kF a.2 v), ⟨.refl _, .refl _, trivial⟩, rfl, trivial, ?_⟩
    refine ⟨fun h3 => ?_, fun h3 => ?_⟩
    · have e := m1 h3
      exact ⟨.tup2 (.agg2 (.int (by rw [e])) (by rw [e]; exact .nil ..)) (.int (by rw [e])), rfl⟩
    have e := m2 h3
    refine ⟨Unit, fun _ => [(4, .box 4 0), (6, .box 6 0), (7, I 0), (8, .box 8 0), (10, .box 10 0)], fun _ => [(4, [I v]), (6, [I 0, monos []]), (8, termC (scaleF b (kF a.2 v)).1), (10, [I a.1, .arr 33 2 0 a.2.length none]), (33, [monoM a.2])], fun _ => True, ?_, fun _ _ => ?_⟩
    · refine ⟨by kernel_rfl, ?_⟩
      refine ⟨a, ⟨.refl _, trivial⟩, trivial, (show a.2.length ≤ 1000000 by omega), ?_⟩
      exact ⟨(), trivial, ⟨rfl, rfl⟩, .refl _, .refl _, .refl _, .refl _, .refl _, ⟨.refl _, trivial⟩, ⟨.refl _, trivial⟩, ⟨.refl _, .own .., trivial⟩, ⟨.refl _, .nil .., trivial⟩, ⟨.refl _, .refl _, trivial⟩, trivial⟩
    refine ⟨Unit, fun _ => [(6, .box 6 0), (7, I 0), (8, .box 8 0), (10, .box 10 0)], fun _ => [(6, [I 0, monos []]), (8, termC (scaleF b (kF a.2 v)).1), (10, [I a.1, .arr 33 2 0 (dlF v a.2).length none]), (33, [monoM (delP a.2 v)])], fun _ => True, ?_, fun _ _ => ?_⟩
    · refine ⟨by kernel_rfl, ?_⟩
      refine ⟨(a.2, v), ⟨.refl _, .refl _, trivial⟩, ⟨⟨rfl, .refl _, trivial⟩, ⟨rfl, .refl _, trivial⟩, trivial⟩, (show a.2.length ≤ 1000000 by omega), ?_⟩
      exact ⟨(), trivial, ⟨rfl, rfl⟩, .refl _, .refl _, .refl _, .refl _, ⟨.refl _, trivial⟩, ⟨.refl _, .refl _, trivial⟩, ⟨.refl _, .refl _, trivial⟩, ⟨.refl _, .refl _, trivial⟩, trivial⟩
    have hdl : 0 + (dlF v a.2).length ≤ (delP a.2 v).length := by unfold delP; rw [List.length_append]; omega
    have hdt : ((delP a.2 v).drop 0).take (dlF v a.2).length = dlF v a.2 := by unfold delP; rw [List.drop_zero, List.take_left']; rfl
    have pe : Sub (.tup [termS (addF (a.1, dlF v a.2) (scaleF b (kF a.2 v)).1).1, I (addF (a.1, dlF v a.2) (scaleF b (kF a.2 v)).1).2]) (.tup [termS (putF a v b).1, I (putF a v b).2]) := by rw [e]; exact .refl _
    refine ⟨?_, ?_⟩
    · exact hdl
    · skip
      refine ⟨((a.1, dlF v a.2), (scaleF b (kF a.2 v)).1), ⟨.agg2 (.refl _) (.rowEq hdt), .refl _, trivial⟩, rfl, trivial, ?_⟩
      exact ⟨pe, rfl⟩
end Go.Proofs.Ytddcbnillkefhaa.Ax
