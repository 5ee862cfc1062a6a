/- Layer term by the logic: the statements' guard against a program that does nothing; TermEdges. -/
import Derived.Test.YtddcbnillkefhaaTz
set_option linter.unusedVariables false
set_option linter.unusedSimpArgs false
namespace Go.Proofs.Ytddcbnillkefhaa.Ax
open Go Go.RowKit
def at1 (args : List SV) (r : Nat → SV) : Ctr := { A := Unit, enc := fun _ => args, dom := fun _ => True, res := fun _ id => r id }
theorem w_var : CtrSound Try.prog 8 (at1 [I 0] fun id => .tup [termO (0, [(0, 1)]) id, I 0]) :=
  term_Var_ok.weaken (fun _ => (0 : Int)) (fun _ _ => rfl) (fun _ _ => trivial) (fun _ _ _ => by
    show Sub (.tup [termO (varF 0).1 _, I (varF 0).2]) _
    rw [show varF 0 = ((0, [(0, 1)]), 0) from by decide]; exact .refl _)
theorem w_scale : CtrSound Try.prog 9 (at1 [termS (0, [(0, 1)]), I 2] fun id => .tup [termO (0, [(0, 2)]) id, I 0]) :=
  term_Scale_ok.weaken (fun _ => (((0, [(0, 1)]), 2) : (Int × List (Int × Int)) × Int)) (fun _ _ => rfl) (fun _ _ => trivial) (fun _ _ _ => by
    show Sub (.tup [termO (scaleF (0, [(0, 1)]) 2).1 _, I (scaleF (0, [(0, 1)]) 2).2]) _
    rw [show scaleF (0, [(0, 1)]) 2 = ((0, [(0, 2)]), 0) from by decide]; exact .refl _)
theorem w_const : CtrSound Try.prog 11 (at1 [I 3] fun id => .tup [termO (3, []) id, I 0]) :=
  term_Const_ok.weaken (fun _ => (3 : Int)) (fun _ _ => rfl) (fun _ _ => trivial) (fun _ _ _ => by
    show Sub (.tup [termO (constF 3).1 _, I (constF 3).2]) _
    rw [show constF 3 = ((3, []), 0) from by decide]; exact .refl _)
theorem w_add_eq : addF (0, [(0, 2)]) (3, []) = ((3, [(0, 2)]), 0) := by
  have h : mg [(0, 2)] [] = [(0, 2)] := by simp [mg_l, mg_nil, keep]
  unfold addF fitsF sumF
  simp only [h]
  decide
theorem w_add : CtrSound Try.prog 10 (at1 [termS (0, [(0, 2)]), termS (3, [])] fun _ => .tup [termS (3, [(0, 2)]), I 0]) :=
  term_Add_ok.weaken (fun _ => (((0, [(0, 2)]), (3, [])) : (Int × List (Int × Int)) × (Int × List (Int × Int)))) (fun _ _ => rfl) (fun _ _ => trivial) (fun _ _ _ => by
    show Sub (.tup [termS (addF (0, [(0, 2)]) (3, [])).1, I (addF (0, [(0, 2)]) (3, [])).2]) _
    rw [w_add_eq]; exact .refl _)
theorem w_value : CtrSound Try.prog 16 (at1 [termS (3, [(0, 2)]), ints [5]] fun _ => .tup [I 13, I 0]) :=
  term_Value_ok.weaken (fun _ => (((3, [(0, 2)]), [5]) : (Int × List (Int × Int)) × List Int)) (fun _ _ => rfl) (fun _ _ => (by show (1 : Nat) ≤ 4611686018427387904; omega)) (fun _ _ _ => by
    show Sub (.tup [I (valueF (3, [(0, 2)]) [5]).1, I (valueF (3, [(0, 2)]) [5]).2]) _
    rw [show valueF (3, [(0, 2)]) [5] = (13, 0) from by decide]; exact .refl _)
theorem w_K : CtrSound Try.prog 12 (at1 [termS (3, [(0, 2)]), I 0] fun _ => I 2) :=
  term_K_ok.weaken (fun _ => (((3, [(0, 2)]), 0) : (Int × List (Int × Int)) × Int)) (fun _ _ => rfl) (fun _ _ => (by show (1 : Nat) ≤ 1000000000; omega)) (fun _ _ _ => .refl _)
theorem w_Check : CtrSound Try.prog 20 (at1 [termS (0, [(0, 0)])] fun _ => I 1) :=
  term_Check_ok.weaken (fun _ => ((0, [(0, 0)]) : Int × List (Int × Int))) (fun _ _ => rfl) (fun _ _ => trivial) (fun _ _ _ => by
    show Sub (I (checkF (0, [(0, 0)]))) _
    rw [show checkF (0, [(0, 0)]) = 1 from by decide]; exact .refl _)
def wakes13 : Ctr := { A := Unit, enc := fun _ => [], dom := fun _ => True, res := fun _ _ => .tt }
set_option maxRecDepth 100000 in
set_option maxHeartbeats 4000000 in
theorem wakes13_ok : CtrSound Try.prog 13 wakes13 :=
  ctr_of_ax (env_ok tys_ok (eqs := []) trivial (cs := [(8, _), (9, _), (11, _), (10, _), (16, _), (12, _), (20, _)]) ⟨w_var, w_scale, w_const, w_add, w_value, w_K, w_Check, trivial⟩) mixed _ Try.func13 (by kernel_rfl) rfl (fun _ _ => Nat.le_of_ble_eq_true rfl) fun x id hd => by
    refine ⟨(), ⟨.refl _, trivial⟩, rfl, trivial, ?_⟩
    refine ⟨(), ⟨.agg2 (.refl _) (.own ..), .refl _, trivial⟩, rfl, trivial, ?_⟩
    refine ⟨(), ⟨.refl _, trivial⟩, rfl, trivial, ?_⟩
    refine ⟨(), ⟨.agg2 (.refl _) (.own ..), .agg2 (.refl _) (.own ..), trivial⟩, rfl, trivial, ?_⟩
    refine ⟨Int, fun n => [I n], 0, [5], ⟨rfl, fun _ => rfl⟩, ⟨.refl _, trivial⟩, rfl, ?_⟩
    refine ⟨(), ⟨.refl _, .own .., trivial⟩, rfl, trivial, ?_⟩
    refine ⟨?_, ?_⟩
    · skip
      intro h -- (0 == 0) = true
      refine ⟨?_, ?_⟩
      · skip
        intro h -- (0 == 0) = true
        refine ⟨?_, ?_⟩
        · skip
          intro h -- (0 == 0) = true
          refine ⟨?_, ?_⟩
          · skip
            intro h -- (0 == 0) = true
            refine ⟨?_, ?_⟩
            · skip
              intro h -- (0 == 0) = true
              refine ⟨?_, ?_⟩
              · skip
                intro h -- (13 == 13) = true
                refine ⟨(), ⟨.refl _, .refl _, trivial⟩, rfl, trivial, ?_⟩
                refine ⟨?_, ?_⟩
                · skip
                  intro h -- (2 == 2) = true
                  refine ⟨Int × Int, monoC, (0, 0), [(0, 0)], ⟨rfl, fun _ => rfl⟩, ⟨.refl _, .refl _, trivial⟩, rfl, ?_⟩
                  refine ⟨(), ⟨.agg2 (.refl _) (.own ..), trivial⟩, rfl, trivial, ?_⟩
                  exact ⟨.toTT (by decide), rfl⟩
                · skip
                  intro h -- (2 == 2) = false
                  (exact absurd h (by decide))
              · skip
                intro h -- (13 == 13) = false
                (exact absurd h (by decide))
            · skip
              intro h -- (0 == 0) = false
              (exact absurd h (by decide))
          · skip
            intro h -- (0 == 0) = false
            (exact absurd h (by decide))
        · skip
          intro h -- (0 == 0) = false
          (exact absurd h (by decide))
      · skip
        intro h -- (0 == 0) = false
        (exact absurd h (by decide))
    · skip
      intro h -- (0 == 0) = false
      (exact absurd h (by decide))
def edU (v : Int) : Int := IntKind.i64.wrap ((IntKind.u64.wrap v).tmod 40)
theorem edU_in (v : Int) : 0 ≤ edU v ∧ edU v < 40 := by
  have h0 : 0 ≤ IntKind.u64.wrap v := by
    simp only [IntKind.wrap, IntKind.bits, IntKind.signed]; simp; omega
  have h1 := Int.tmod_nonneg 40 h0
  have h2 := Int.tmod_lt_of_pos (IntKind.u64.wrap v) (b := 40) (by omega)
  unfold edU
  rw [wrap_eq _ (by omega) (by omega)]
  exact ⟨h1, h2⟩
theorem mono_right (u k : Int) (h : 0 ≤ u ∧ u < 40) (hk : k ≠ 0 ∧ -1048576 ≤ k ∧ k ≤ 1048576) : right (0, [(u, k)]) :=
  (right_iff _).2 ⟨by simp, by simp, ⟨by show (-1 : Int) < u; omega, h.2, hk.1, hk.2.1, hk.2.2, trivial⟩⟩
theorem ed1 (u : Int) (h : 0 ≤ u ∧ u < 40) : varF u = ((0, [(u, 1)]), 0) := if_pos h
theorem ed2 (u : Int) (h : 0 ≤ u ∧ u < 40) : scaleF (varF u).1 1048576 = ((0, [(u, 1048576)]), 0) := by
  rw [ed1 u h]
  unfold scaleF
  rw [if_pos (mono_right u 1 h ⟨by decide, by decide, by decide⟩)]
  simp only [scL, show timesF 0 1048576 1099511627776 = (0, true) from by decide, show timesF 1 1048576 1048576 = (1048576, true) from by decide, keep]
  rfl
theorem ed3 (u : Int) (h : 0 ≤ u ∧ u < 40) : scaleF (varF u).1 1048577 = ((0, []), 12) := by
  rw [ed1 u h]
  unfold scaleF
  rw [if_pos (mono_right u 1 h ⟨by decide, by decide, by decide⟩)]
  simp only [scL, show timesF 0 1048577 1099511627776 = (0, true) from by decide, show timesF 1 1048577 1048576 = (0, false) from by decide, keep]
  rfl
theorem ed4 (u : Int) (h : 0 ≤ u ∧ u < 40) : addF (scaleF (varF u).1 1048576).1 (varF u).1 = ((0, []), 12) := by
  rw [ed2 u h, ed1 u h]
  unfold addF
  rw [if_pos ⟨mono_right u _ h ⟨by decide, by decide, by decide⟩, mono_right u _ h ⟨by decide, by decide, by decide⟩⟩]
  unfold fitsF
  rw [if_neg]
  intro r
  have := ((right_iff _).1 r).2.2
  simp only [sumF, mg_eq (a := (u, 1048576)) (b := (u, 1)) [] [] (decide_eq_false (Int.lt_irrefl u)) (decide_eq_false (Int.lt_irrefl u)), mg_nil, show IntKind.i64.wrap (1048576 + 1) = 1048577 from by decide, keep] at this
  have h9 : (1048577 : Int) ≤ 1048576 := this.2.2.2.2.1
  omega
theorem ed8 : addF (constF 1099511627776).1 (constF 1).1 = ((0, []), 12) := by
  rw [show constF 1099511627776 = ((1099511627776, []), 0) from by decide, show constF 1 = ((1, []), 0) from by decide]
  unfold addF fitsF sumF
  simp only [mg_nil]
  decide
theorem ed9 (u : Int) (h : 0 ≤ u ∧ u < 40) : kF (scaleF (varF u).1 1048576).1.2 u = 1048576 := by
  rw [ed2 u h]
  simp [kF]
def TermEdges : Ctr := { A := Int, enc := fun v => [I v], dom := fun _ => True, res := fun _ _ => .tt }
set_option maxRecDepth 100000 in
set_option maxHeartbeats 4000000 in
theorem TermEdges_ok : CtrSound Try.prog 3 TermEdges :=
  ctr_of_ax (env_ok tys_ok (eqs := []) trivial (cs := [(8, term_Var), (9, term_Scale), (11, term_Const), (10, term_Add), (12, term_K), (13, wakes13)]) ⟨term_Var_ok, term_Scale_ok, term_Const_ok, term_Add_ok, term_K_ok, wakes13_ok, trivial⟩) mixed _ Try.func3 (by kernel_rfl) rfl (fun _ _ => Nat.le_of_ble_eq_true rfl) fun (v : Int) id hd => by
    have hu := edU_in v
    have f1 := ed1 _ hu
    have f2 := ed2 _ hu
    have f3 := ed3 _ hu
    have f4 := ed4 _ hu
    have f8 := ed8
    have f9 := ed9 _ hu
    refine ⟨by decide, ?_⟩
    refine ⟨edU v, ⟨.refl _, trivial⟩, rfl, trivial, ?_⟩
    refine ⟨((varF (edU v)).1, 1048576), ⟨.agg2 (.refl _) (.own ..), .refl _, trivial⟩, rfl, trivial, ?_⟩
    refine ⟨((varF (edU v)).1, 1048577), ⟨.agg2 (.refl _) (.own ..), .refl _, trivial⟩, rfl, trivial, ?_⟩
    refine ⟨((scaleF (varF (edU v)).1 1048576).1, (varF (edU v)).1), ⟨.agg2 (.refl _) (.own ..), .agg2 (.refl _) (.own ..), trivial⟩, rfl, trivial, ?_⟩
    refine ⟨((1099511627776 : Int) : term_Const.A), ⟨.refl _, trivial⟩, rfl, trivial, ?_⟩
    refine ⟨((-1099511627777 : Int) : term_Const.A), ⟨.refl _, trivial⟩, rfl, trivial, ?_⟩
    refine ⟨((1 : Int) : term_Const.A), ⟨.refl _, trivial⟩, rfl, trivial, ?_⟩
    refine ⟨((constF 1099511627776).1, (constF 1).1), ⟨.agg2 (.refl _) (.own ..), .agg2 (.refl _) (.own ..), trivial⟩, rfl, trivial, ?_⟩
    refine ⟨?_, ?_⟩
    · skip
      intro h -- ((varF (edU v)).snd == 0) = true
      refine ⟨?_, ?_⟩
      · skip
        intro h -- ((scaleF ((varF (edU v)).fst, 1048576).fst ((varF (edU v)).fst, 1048576).snd).snd == 0) = true
        dsimp only at h
        refine ⟨?_, ?_⟩
        · skip
          intro h -- ((scaleF ((varF (edU v)).fst, 1048577).fst ((varF (edU v)).fst, 1048577).snd).snd == 12) = true
          dsimp only at h
          refine ⟨?_, ?_⟩
          · skip
            intro h -- ((addF ((scaleF (varF (edU v)).fst 1048576).fst, (varF (edU v)).fst).fst ((scaleF (varF (edU v)).fst 1048576).fst, (varF (edU v)).fst).snd).snd == 12) = true
            dsimp only at h
            refine ⟨?_, ?_⟩
            · skip
              intro h -- ((constF 1099511627776).snd == 0) = true
              refine ⟨?_, ?_⟩
              · skip
                intro h -- ((constF (-1099511627777)).snd == 12) = true
                refine ⟨?_, ?_⟩
                · skip
                  intro h -- ((constF 1).snd == 0) = true
                  refine ⟨?_, ?_⟩
                  · skip
                    intro h -- ((addF ((constF 1099511627776).fst, (constF 1).fst).fst ((constF 1099511627776).fst, (constF 1).fst).snd).snd == 12) = true
                    dsimp only at h
                    refine ⟨((scaleF (varF (edU v)).1 1048576).1, edU v), ⟨.agg2 (.refl _) (.own ..), .refl _, trivial⟩, rfl, (show (scaleF (varF (edU v)).1 1048576).1.2.length ≤ 1000000000 from by rw [f2]; exact Nat.le_of_ble_eq_true rfl), ?_⟩
                    refine ⟨?_, ?_⟩
                    · skip
                      intro h -- (kF ((scaleF (varF (edU v)).fst 1048576).fst, edU v).fst.snd ((scaleF (varF (edU v)).fst 1048576).fst, edU v).snd == 1048576) = true
                      dsimp only at h
                      refine ⟨(), trivial, rfl, trivial, ?_⟩
                      exact ⟨.refl _, rfl⟩
                    · skip
                      intro h -- (kF ((scaleF (varF (edU v)).fst 1048576).fst, edU v).fst.snd ((scaleF (varF (edU v)).fst 1048576).fst, edU v).snd == 1048576) = false
                      dsimp only at h
                      (rw [f9] at h; exact absurd h (by decide))
                  · skip
                    intro h -- ((addF ((constF 1099511627776).fst, (constF 1).fst).fst ((constF 1099511627776).fst, (constF 1).fst).snd).snd == 12) = false
                    dsimp only at h
                    (exact absurd h (by decide))
                · skip
                  intro h -- ((constF 1).snd == 0) = false
                  (exact absurd h (by decide))
              · skip
                intro h -- ((constF (-1099511627777)).snd == 12) = false
                (exact absurd h (by decide))
            · skip
              intro h -- ((constF 1099511627776).snd == 0) = false
              (exact absurd h (by decide))
          · skip
            intro h -- ((addF ((scaleF (varF (edU v)).fst 1048576).fst, (varF (edU v)).fst).fst ((scaleF (varF (edU v)).fst 1048576).fst, (varF (edU v)).fst).snd).snd == 12) = false
            dsimp only at h
            (rw [f4] at h; exact absurd h (by decide))
        · skip
          intro h -- ((scaleF ((varF (edU v)).fst, 1048577).fst ((varF (edU v)).fst, 1048577).snd).snd == 12) = false
          dsimp only at h
          (rw [f3] at h; exact absurd h (by decide))
      · skip
        intro h -- ((scaleF ((varF (edU v)).fst, 1048576).fst ((varF (edU v)).fst, 1048576).snd).snd == 0) = false
        dsimp only at h
        (rw [f2] at h; simp at h; done)
    · skip
      intro h -- ((varF (edU v)).snd == 0) = false
      (rw [f1] at h; simp at h; done)
end Go.Proofs.Ytddcbnillkefhaa.Ax
