/- Layer term: TermPuts. -/
import Derived.Test.YtddcbnillkefhaaPh
set_option linter.unusedVariables false
set_option linter.unusedSimpArgs false
namespace Go.Proofs.Ytddcbnillkefhaa.Ax
open Go Go.RowKit
theorem n3' {x : Int} (z : x = 0 ∨ x = 12) (h : (x == 0) = false) (h2 : (x == 12) = false) : False := by simp at h h2; omega
theorem n4 {x : Int} (h : (x != 0) = true) (h2 : (x == 0) = true) : False := by simp at h h2; omega
def TermPuts : Ctr := { A := (Int × List (Int × Int)) × (Int × List (Int × Int)) × Int, enc := fun x => [termS x.1, termS x.2.1, I x.2.2], dom := fun _ => True, res := fun _ _ => .tt }
set_option maxRecDepth 100000 in
set_option maxHeartbeats 8000000 in
theorem TermPuts_ok : CtrSound Try.prog 7 TermPuts :=
  ctr_of_ax (env_okB tys_ok (eqs := []) trivial (cs := [(14, Heavy13), (15, ref_Right), (8, term_Var), (10, term_Add), (9, term_Scale), (18, term_Put), (12, term_K), (19, keep_Term), (13, wakes13)]) ⟨Heavy13_ok, ref_Right_ok, term_Var_ok, term_Add_ok, term_Scale_ok, term_Put_ok, term_K_ok, keep_Term_ok, wakes13_ok, trivial⟩ (bs := []) trivial) mixed _ Try.func7 (by kernel_rfl) rfl (fun _ _ => Nat.le_of_ble_eq_true rfl) fun ((a, b, u) : (Int × List (Int × Int)) × (Int × List (Int × Int)) × Int) id hd => by
    refine ⟨a, ⟨.refl _, trivial⟩, rfl, trivial, fun h1 => ?_, fun h1 => ?_⟩
    · exact ⟨.refl _, rfl⟩
    refine ⟨b, ⟨.refl _, trivial⟩, rfl, trivial, fun h2 => ?_, fun h2 => ?_⟩
    · exact ⟨.refl _, rfl⟩
    refine ⟨a, ⟨.refl _, trivial⟩, rfl, trivial, fun h3 => ?_, fun h3 => ?_⟩
    · exact ⟨.refl _, rfl⟩
    refine ⟨b, ⟨.refl _, trivial⟩, rfl, trivial, fun h4 => ?_, fun h4 => ?_⟩
    · exact ⟨.refl _, rfl⟩
    refine ⟨fun h5 => ?_, fun h5 => ⟨fun h6 => ?_, fun h6 => ?_⟩⟩
    · exact ⟨.refl _, rfl⟩
    · exact ⟨.refl _, rfl⟩
    have ra : right a := of_decide_eq_true (nnot h3)
    have rb : right b := of_decide_eq_true (nnot h4)
    have la : a.2.length ≤ 40 := ra.2.2.1
    have hu : 0 ≤ u ∧ u < 40 := ⟨by have := of_decide_eq_false h5; dsimp only at this; omega, by have := of_decide_eq_false h6; dsimp only at this; omega⟩
    have ev : varF u = ((0, [(u, 1)]), 0) := if_pos hu
    have e1 : putF a u (varF u).1 = (a, 0) := by rw [ev]; exact put_self ra hu
    have e2 := put_nil u ra
    have e3 : kF (putF a u (0, [])).1.2 u = 0 := by rw [e2]; exact kF_dl u a.2
    have z1 := put_0c u ra rb
    have z2 := scale_0c (kF a.2 u) rb
    have ld : (putF a u (0, [])).1.2.length ≤ 1000000000 := by rw [e2]; have := dlF_len u a.2; show (dlF u a.2).length ≤ 1000000000; omega
    have e4 : (scaleF b (kF a.2 u)).2 = 0 → addF (putF a u (0, [])).1 (scaleF b (kF a.2 u)).1 = putF a u b := fun h => by rw [e2]; exact put_add u ra rb h
    have e4' : ((scaleF b (kF a.2 u)).2 != 0) = false → addF (putF a u (0, [])).1 (scaleF b (kF a.2 u)).1 = putF a u b := fun h => e4 (eqz h)
    have l1 : (putF a u (varF u).1).1.2.length ≤ 4611686018427387904 := by rw [e1]; exact Nat.le_trans la (Nat.le_of_ble_eq_true rfl)
    have lx : ∀ p q : Int × List (Int × Int), (addF p q).1.2.length ≤ 4611686018427387904 := fun p q => by
      have : (addF p q).1.2.length ≤ 40 := by
        unfold addF fitsF
        split
        · split
          · rename_i h; exact h.2.2.1
          · exact Nat.zero_le _
        · exact Nat.zero_le _
      omega
    refine ⟨u, ⟨.refl _, trivial⟩, rfl, trivial, ?_⟩
    refine ⟨(a, u, (varF u).1), ⟨.refl _, .refl _, .agg2 (.refl _) (.own ..), trivial⟩, rfl, trivial, ?_⟩
    refine ⟨?_, ?_⟩
    · skip
      intro h -- ((varF u).snd != 0) = true
      (rw [ev] at h; simp at h; done)
    · skip
      intro h -- ((varF u).snd != 0) = false
      refine ⟨?_, ?_⟩
      · skip
        intro h -- ((putF (a, u, (varF u).fst).fst (a, u, (varF u).fst).snd.fst (a, u, (varF u).fst).snd.snd).snd != 0) = true
        dsimp only at h
        (rw [e1] at h; simp at h; done)
      · skip
        intro h -- ((putF (a, u, (varF u).fst).fst (a, u, (varF u).fst).snd.fst (a, u, (varF u).fst).snd.snd).snd != 0) = false
        dsimp only at h
        refine ⟨((putF a u (varF u).1).1, a), ⟨.refl _, .refl _, trivial⟩, rfl, l1, ?_⟩
        refine ⟨?_, ?_⟩
        · skip
          intro h -- (!decide (((putF a u (varF u).fst).fst, a).fst = ((putF a u (varF u).fst).fst, a).snd)) = true
          dsimp only at h
          (rw [e1] at h; simp at h; done)
        · skip
          intro h -- (!decide (((putF a u (varF u).fst).fst, a).fst = ((putF a u (varF u).fst).fst, a).snd)) = false
          dsimp only at h
          refine ⟨(a, u, (0, [])), ⟨.refl _, .refl _, .agg2 (.refl _) (.nil ..), trivial⟩, rfl, trivial, ?_⟩
          refine ⟨(a, u, b), ⟨.refl _, .refl _, .refl _, trivial⟩, rfl, trivial, ?_⟩
          refine ⟨?_, ?_⟩
          · kernel_rfl
          · skip
            refine ⟨(a, u), ⟨.refl _, .refl _, trivial⟩, rfl, (show a.2.length ≤ 1000000000 by omega), ?_⟩
            refine ⟨(b, kF a.2 u), ⟨.refl _, .refl _, trivial⟩, rfl, trivial, ?_⟩
            refine ⟨?_, ?_⟩
            · skip
              intro h -- ((putF (a, u, 0, []).fst (a, u, 0, []).snd.fst (a, u, 0, []).snd.snd).snd != 0) = true
              dsimp only at h
              (rw [e2] at h; simp at h; done)
            · skip
              intro h -- ((putF (a, u, 0, []).fst (a, u, 0, []).snd.fst (a, u, 0, []).snd.snd).snd != 0) = false
              dsimp only at h
              refine ⟨((putF a u (0, [])).1, u), ⟨.refl _, .refl _, trivial⟩, rfl, ld, ?_⟩
              refine ⟨?_, ?_⟩
              · skip
                intro h -- (kF ((putF a u (0, [])).fst, u).fst.snd ((putF a u (0, [])).fst, u).snd != 0) = true
                dsimp only at h
                (rw [e3] at h; exact absurd h (by decide))
              · skip
                intro h -- (kF ((putF a u (0, [])).fst, u).fst.snd ((putF a u (0, [])).fst, u).snd != 0) = false
                dsimp only at h
                refine ⟨?_, ?_⟩
                · skip
                  intro h -- ((putF (a, u, b).fst (a, u, b).snd.fst (a, u, b).snd.snd).snd != 0) = true
                  dsimp only at h
                  refine ⟨?_, ?_⟩
                  · skip
                    intro h -- ((putF (a, u, b).fst (a, u, b).snd.fst (a, u, b).snd.snd).snd == 0) = true
                    dsimp only at h
                    refine ⟨?_, ?_⟩
                    · skip
                      intro h -- ((scaleF (b, kF a.snd u).fst (b, kF a.snd u).snd).snd == 0) = true
                      dsimp only at h
                      refine ⟨(), trivial, rfl, trivial, ?_⟩
                      exact ⟨.refl _, rfl⟩
                    · skip
                      intro h -- ((scaleF (b, kF a.snd u).fst (b, kF a.snd u).snd).snd == 0) = false
                      dsimp only at h
                      refine ⟨?_, ?_⟩
                      · skip
                        intro h -- ((scaleF (b, kF a.snd u).fst (b, kF a.snd u).snd).snd == 12) = true
                        dsimp only at h
                        refine ⟨(), trivial, rfl, trivial, ?_⟩
                        exact ⟨.refl _, rfl⟩
                      · skip
                        intro h -- ((scaleF (b, kF a.snd u).fst (b, kF a.snd u).snd).snd == 12) = false
                        dsimp only at h
                        (exact (n3' z2 ‹_› h).elim)
                  · skip
                    intro h -- ((putF (a, u, b).fst (a, u, b).snd.fst (a, u, b).snd.snd).snd == 0) = false
                    dsimp only at h
                    refine ⟨?_, ?_⟩
                    · skip
                      intro h -- ((putF (a, u, b).fst (a, u, b).snd.fst (a, u, b).snd.snd).snd == 12) = true
                      dsimp only at h
                      refine ⟨?_, ?_⟩
                      · skip
                        intro h -- ((scaleF (b, kF a.snd u).fst (b, kF a.snd u).snd).snd == 0) = true
                        dsimp only at h
                        refine ⟨(), trivial, rfl, trivial, ?_⟩
                        exact ⟨.refl _, rfl⟩
                      · skip
                        intro h -- ((scaleF (b, kF a.snd u).fst (b, kF a.snd u).snd).snd == 0) = false
                        dsimp only at h
                        refine ⟨?_, ?_⟩
                        · skip
                          intro h -- ((scaleF (b, kF a.snd u).fst (b, kF a.snd u).snd).snd == 12) = true
                          dsimp only at h
                          refine ⟨(), trivial, rfl, trivial, ?_⟩
                          exact ⟨.refl _, rfl⟩
                        · skip
                          intro h -- ((scaleF (b, kF a.snd u).fst (b, kF a.snd u).snd).snd == 12) = false
                          dsimp only at h
                          (exact (n3' z2 ‹_› h).elim)
                    · skip
                      intro h -- ((putF (a, u, b).fst (a, u, b).snd.fst (a, u, b).snd.snd).snd == 12) = false
                      dsimp only at h
                      (exact (n3' z1 ‹_› h).elim)
                · skip
                  intro h -- ((putF (a, u, b).fst (a, u, b).snd.fst (a, u, b).snd.snd).snd != 0) = false
                  dsimp only at h
                  refine ⟨?_, ?_⟩
                  · skip
                    intro h -- ((scaleF (b, kF a.snd u).fst (b, kF a.snd u).snd).snd != 0) = true
                    dsimp only at h
                    refine ⟨?_, ?_⟩
                    · skip
                      intro h -- ((putF (a, u, b).fst (a, u, b).snd.fst (a, u, b).snd.snd).snd == 0) = true
                      dsimp only at h
                      refine ⟨?_, ?_⟩
                      · skip
                        intro h -- ((scaleF (b, kF a.snd u).fst (b, kF a.snd u).snd).snd == 0) = true
                        dsimp only at h
                        refine ⟨(), trivial, rfl, trivial, ?_⟩
                        exact ⟨.refl _, rfl⟩
                      · skip
                        intro h -- ((scaleF (b, kF a.snd u).fst (b, kF a.snd u).snd).snd == 0) = false
                        dsimp only at h
                        refine ⟨?_, ?_⟩
                        · skip
                          intro h -- ((scaleF (b, kF a.snd u).fst (b, kF a.snd u).snd).snd == 12) = true
                          dsimp only at h
                          refine ⟨(), trivial, rfl, trivial, ?_⟩
                          exact ⟨.refl _, rfl⟩
                        · skip
                          intro h -- ((scaleF (b, kF a.snd u).fst (b, kF a.snd u).snd).snd == 12) = false
                          dsimp only at h
                          (exact (n3' z2 ‹_› h).elim)
                    · skip
                      intro h -- ((putF (a, u, b).fst (a, u, b).snd.fst (a, u, b).snd.snd).snd == 0) = false
                      dsimp only at h
                      refine ⟨?_, ?_⟩
                      · skip
                        intro h -- ((putF (a, u, b).fst (a, u, b).snd.fst (a, u, b).snd.snd).snd == 12) = true
                        dsimp only at h
                        refine ⟨?_, ?_⟩
                        · skip
                          intro h -- ((scaleF (b, kF a.snd u).fst (b, kF a.snd u).snd).snd == 0) = true
                          dsimp only at h
                          refine ⟨(), trivial, rfl, trivial, ?_⟩
                          exact ⟨.refl _, rfl⟩
                        · skip
                          intro h -- ((scaleF (b, kF a.snd u).fst (b, kF a.snd u).snd).snd == 0) = false
                          dsimp only at h
                          refine ⟨?_, ?_⟩
                          · skip
                            intro h -- ((scaleF (b, kF a.snd u).fst (b, kF a.snd u).snd).snd == 12) = true
                            dsimp only at h
                            refine ⟨(), trivial, rfl, trivial, ?_⟩
                            exact ⟨.refl _, rfl⟩
                          · skip
                            intro h -- ((scaleF (b, kF a.snd u).fst (b, kF a.snd u).snd).snd == 12) = false
                            dsimp only at h
                            (exact (n3' z2 ‹_› h).elim)
                      · skip
                        intro h -- ((putF (a, u, b).fst (a, u, b).snd.fst (a, u, b).snd.snd).snd == 12) = false
                        dsimp only at h
                        (exact (n3' z1 ‹_› h).elim)
                  · skip
                    intro h -- ((scaleF (b, kF a.snd u).fst (b, kF a.snd u).snd).snd != 0) = false
                    dsimp only at h
                    refine ⟨((putF a u (0, [])).1, (scaleF b (kF a.2 u)).1), ⟨.refl _, .agg2 (.refl _) (.own ..), trivial⟩, rfl, trivial, ?_⟩
                    refine ⟨?_, ?_⟩
                    · skip
                      intro h -- ((addF ((putF a u (0, [])).fst, (scaleF b (kF a.snd u)).fst).fst ((putF a u (0, [])).fst, (scaleF b (kF a.snd u)).fst).snd).snd == 0) = true
                      dsimp only at h
                      refine ⟨((addF (putF a u (0, [])).1 (scaleF b (kF a.2 u)).1).1, (putF a u b).1), ⟨.refl _, .refl _, trivial⟩, rfl, lx _ _, ?_⟩
                      refine ⟨?_, ?_⟩
                      · skip
                        intro h -- decide (((addF (putF a u (0, [])).fst (scaleF b (kF a.snd u)).fst).fst, (putF a u b).fst).fst = ((addF (putF a u (0, [])).fst (scaleF b (kF a.snd u)).fst).fst, 
                        dsimp only at h
                        refine ⟨(), trivial, rfl, trivial, ?_⟩
                        exact ⟨.refl _, rfl⟩
                      · skip
                        intro h -- decide (((addF (putF a u (0, [])).fst (scaleF b (kF a.snd u)).fst).fst, (putF a u b).fst).fst = ((addF (putF a u (0, [])).fst (scaleF b (kF a.snd u)).fst).fst, 
                        dsimp only at h
                        (rw [e4' ‹((scaleF b (kF a.2 u)).2 != 0) = false›] at h; simp at h; done)
                    · skip
                      intro h -- ((addF ((putF a u (0, [])).fst, (scaleF b (kF a.snd u)).fst).fst ((putF a u (0, [])).fst, (scaleF b (kF a.snd u)).fst).snd).snd == 0) = false
                      dsimp only at h
                      (rw [e4' ‹((scaleF b (kF a.2 u)).2 != 0) = false›, eqz ‹((putF a u b).2 != 0) = false›] at h; exact absurd h (by decide))
end Go.Proofs.Ytddcbnillkefhaa.Ax
