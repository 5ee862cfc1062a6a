/- Layer norm by the logic: NormTimes. -/
import Derived.Test.YtobadhbdhomjnaaNu
set_option linter.unusedVariables false
set_option linter.unusedSimpArgs false
namespace Go.Proofs.Ytobadhbdhomjnaa.Ax
open Go Go.RowKit
def tmK (d : Int) : Int := IntKind.i64.wrap (1 + IntKind.i64.wrap ((IntKind.u64.wrap d).tmod 50))
theorem tmK_in (d : Int) : 1 ≤ tmK d ∧ tmK d ≤ 50 := by
  have h0 : 0 ≤ IntKind.u64.wrap d := by
    simp only [IntKind.wrap, IntKind.bits, IntKind.signed]; simp; omega
  have h1 := Int.tmod_nonneg 50 h0
  have h2 := Int.tmod_lt_of_pos (IntKind.u64.wrap d) (b := 50) (by omega)
  unfold tmK
  rw [wrap_eq ((IntKind.u64.wrap d).tmod 50) (by omega) (by omega), wrap_eq _ (by omega) (by omega)]
  omega
def NormTimes : Ctr := { A := ((Int × List (Int × Int)) × Bool) × Int, enc := fun x => [consS x.1, I x.2], dom := fun _ => True, res := fun _ _ => .tt }
set_option maxRecDepth 100000 in
set_option maxHeartbeats 4000000 in
theorem NormTimes_ok : CtrSound Try.prog 3 NormTimes :=
  ctr_of_ax (env_ok tys_ok (eqs := []) trivial (cs := [(9, Heavy13), (10, ref_Right), (11, ref_Scale), (13, norm_One), (14, keep_Term), (12, wakes14)]) ⟨Heavy13_ok, ref_Right_ok, ref_Scale_ok, norm_One_ok, keep_Term_ok, wakes14_ok, trivial⟩) mixed _ Try.func3 (by kernel_rfl) rfl (fun _ _ => Nat.le_of_ble_eq_true rfl) fun ((((c, l), e), d) : ((Int × List (Int × Int)) × Bool) × Int) id hd => by
    have hk := tmK_in d
    have rr : (!decide (right (c, l))) = false → right (c, l) := fun h => of_decide_eq_true (nnot h)
    have hl : (!decide (right (c, l))) = false → l.length ≤ 1000 := fun h => by have := (rr h).2.2.1; dsimp only at this; omega
    have f1 : (!decide (right (c, l))) = false → decide (c > 1073741824) = false → decide (c < -1073741824) = false → (!(rsF (c, l) (tmK d)).2) = false → (rsF (c, l) (tmK d)).1.2.length ≤ 40 ∧ oneF ((rsF (c, l) (tmK d)).1, e) = oneF ((c, l), e) := fun h h2 h3 h4 =>
      times_short (t := (c, l)) (rr h) (by omega) (by have := of_decide_eq_false h2; have := of_decide_eq_false h3; dsimp only; omega) (nnot h4)
    have f2 : (!decide (right (c, l))) = false → (!(rsF (c, l) (-1)).2) = false → _ := fun h h4 => turned_short (t := (c, l)) (rr h) (nnot h4)
    have f6 : (!decide (right (c, l))) = false → (!e) = false → (!(rsF (c, l) (-1)).2) = false → (oneF ((rsF (c, l) (-1)).1, true)).2.2 = 0 ∧ (oneF ((rsF (c, l) (-1)).1, true)).2.1 = (oneF ((c, l), e)).2.1 ∧ (oneF ((rsF (c, l) (-1)).1, true)).1.1 = (oneF ((c, l), e)).1.1 := fun h h2 h4 => by
      have he : e = true := nnot h2
      rw [he]
      exact (f2 h h4).2
    have f3 : (!decide (right (c, l))) = false → (oneF ((c, l), e)).2.2 = 0 := fun h => one_right (c := ((c, l), e)) (rr h)
    have f4 : (oneF ((c, l), e)).1.1.2.length ≤ 4611686018427387904 := by have := oneF_len ((c, l), e); omega
    have f5 : (oneF ((rsF (c, l) (-1)).1, true)).1.1.2.length ≤ 4611686018427387904 := by have := oneF_len ((rsF (c, l) (-1)).1, true); omega
    refine ⟨by decide, ?_⟩
    refine ⟨(c, l), ⟨.agg2 (.refl _) (.refl _), trivial⟩, rfl, trivial, ?_⟩
    refine ⟨?_, ?_⟩
    · skip
      intro h -- decide ((c, l).snd.length > 60) = true
      dsimp only at h
      exact ⟨.refl _, rfl⟩
    · skip
      intro h -- decide ((c, l).snd.length > 60) = false
      dsimp only at h
      refine ⟨(c, l), ⟨.agg2 (.refl _) (.refl _), trivial⟩, rfl, trivial, ?_⟩
      refine ⟨?_, ?_⟩
      · skip
        intro h -- (!decide (right (c, l))) = true
        exact ⟨.refl _, rfl⟩
      · skip
        intro h -- (!decide (right (c, l))) = false
        refine ⟨?_, ?_⟩
        · skip
          intro h -- decide ((((c, l), e), d).fst.fst.fst > 1073741824) = true
          dsimp only at h
          exact ⟨.refl _, rfl⟩
        · skip
          intro h -- decide ((((c, l), e), d).fst.fst.fst > 1073741824) = false
          dsimp only at h
          refine ⟨?_, ?_⟩
          · skip
            intro h -- decide ((((c, l), e), d).fst.fst.fst < -1073741824) = true
            dsimp only at h
            exact ⟨.refl _, rfl⟩
          · skip
            intro h -- decide ((((c, l), e), d).fst.fst.fst < -1073741824) = false
            dsimp only at h
            refine ⟨((c, l), tmK d), ⟨.agg2 (.refl _) (.refl _), .refl _, trivial⟩, rfl, (show l.length ≤ 1000 ∧ -4611686018427387904 ≤ tmK d ∧ tmK d ≤ 4611686018427387904 from ⟨hl ‹(!decide (right (c, l))) = false›, by omega, by omega⟩), ?_⟩
            refine ⟨?_, ?_⟩
            · skip
              intro h -- (!(rsF ((c, l), tmK d).fst ((c, l), tmK d).snd).snd) = true
              dsimp only at h
              refine ⟨(), trivial, rfl, trivial, ?_⟩
              exact ⟨.refl _, rfl⟩
            · skip
              intro h -- (!(rsF ((c, l), tmK d).fst ((c, l), tmK d).snd).snd) = false
              dsimp only at h
              refine ⟨((c, l), e), ⟨.agg3 (.refl _) (.refl _) (.refl _), trivial⟩, rfl, trivial, ?_⟩
              refine ⟨((rsF (c, l) (tmK d)).1, e), ⟨.agg3 (.refl _) (.own ..) (.refl _), trivial⟩, rfl, trivial, ?_⟩
              refine ⟨?_, ?_⟩
              · skip
                intro h -- ((oneF ((c, l), e)).snd.snd != 0) = true
                (rw [f3 ‹(!decide (right (c, l))) = false›] at h; simp at h; done)
              · skip
                intro h -- ((oneF ((c, l), e)).snd.snd != 0) = false
                refine ⟨?_, ?_⟩
                · skip
                  intro h -- ((oneF ((rsF (c, l) (tmK d)).fst, e)).snd.snd != 0) = true
                  (rw [(f1 ‹(!decide (right (c, l))) = false› ‹decide (c > 1073741824) = false› ‹decide (c < -1073741824) = false› ‹(!(rsF (c, l) (tmK d)).2) = false›).2, f3 ‹(!decide (right (c, l))) = false›] at h; simp at h; done)
                · skip
                  intro h -- ((oneF ((rsF (c, l) (tmK d)).fst, e)).snd.snd != 0) = false
                  refine ⟨?_, ?_⟩
                  · skip
                    intro h -- ((oneF ((c, l), e)).snd.fst != (oneF ((rsF (c, l) (tmK d)).fst, e)).snd.fst) = true
                    (rw [(f1 ‹(!decide (right (c, l))) = false› ‹decide (c > 1073741824) = false› ‹decide (c < -1073741824) = false› ‹(!(rsF (c, l) (tmK d)).2) = false›).2] at h; simp at h; done)
                  · skip
                    intro h -- ((oneF ((c, l), e)).snd.fst != (oneF ((rsF (c, l) (tmK d)).fst, e)).snd.fst) = false
                    refine ⟨?_, ?_⟩
                    · skip
                      intro h -- (!(oneF ((c, l), e)).fst.snd == (oneF ((rsF (c, l) (tmK d)).fst, e)).fst.snd) = true
                      (rw [(f1 ‹(!decide (right (c, l))) = false› ‹decide (c > 1073741824) = false› ‹decide (c < -1073741824) = false› ‹(!(rsF (c, l) (tmK d)).2) = false›).2] at h; simp at h; done)
                    · skip
                      intro h -- (!(oneF ((c, l), e)).fst.snd == (oneF ((rsF (c, l) (tmK d)).fst, e)).fst.snd) = false
                      refine ⟨((oneF ((c, l), e)).1.1, (oneF ((rsF (c, l) (tmK d)).1, e)).1.1), ⟨.agg2 (.refl _) (.own ..), .agg2 (.refl _) (.own ..), trivial⟩, rfl, f4, ?_⟩
                      refine ⟨?_, ?_⟩
                      · skip
                        intro h -- (!decide (((oneF ((c, l), e)).fst.fst, (oneF ((rsF (c, l) (tmK d)).fst, e)).fst.fst).fst = ((oneF ((c, l), e)).fst.fst, (oneF ((rsF (c, l) (tmK d)).fst, e)).fst
                        dsimp only at h
                        (rw [(f1 ‹(!decide (right (c, l))) = false› ‹decide (c > 1073741824) = false› ‹decide (c < -1073741824) = false› ‹(!(rsF (c, l) (tmK d)).2) = false›).2] at h; simp at h; done)
                      · skip
                        intro h -- (!decide (((oneF ((c, l), e)).fst.fst, (oneF ((rsF (c, l) (tmK d)).fst, e)).fst.fst).fst = ((oneF ((c, l), e)).fst.fst, (oneF ((rsF (c, l) (tmK d)).fst, e)).fst
                        dsimp only at h
                        refine ⟨((c, l), -1), ⟨.agg2 (.refl _) (.refl _), .refl _, trivial⟩, rfl, (show l.length ≤ 1000 ∧ (-4611686018427387904 : Int) ≤ -1 ∧ (-1 : Int) ≤ 4611686018427387904 from ⟨hl ‹(!decide (right (c, l))) = false›, by omega, by omega⟩), ?_⟩
                        refine ⟨?_, ?_⟩
                        · skip
                          intro h -- (!(((c, l), e), d).fst.snd) = true
                          dsimp only at h
                          refine ⟨(), trivial, rfl, trivial, ?_⟩
                          exact ⟨.refl _, rfl⟩
                        · skip
                          intro h -- (!(((c, l), e), d).fst.snd) = false
                          dsimp only at h
                          refine ⟨?_, ?_⟩
                          · skip
                            intro h -- (!(rsF ((c, l), -1).fst ((c, l), -1).snd).snd) = true
                            dsimp only at h
                            refine ⟨(), trivial, rfl, trivial, ?_⟩
                            exact ⟨.refl _, rfl⟩
                          · skip
                            intro h -- (!(rsF ((c, l), -1).fst ((c, l), -1).snd).snd) = false
                            dsimp only at h
                            refine ⟨((rsF (c, l) (-1)).1, true), ⟨.agg3 (.refl _) (.own ..) .tt, trivial⟩, rfl, trivial, ?_⟩
                            refine ⟨?_, ?_⟩
                            · skip
                              intro h -- ((oneF ((rsF (c, l) (-1)).fst, true)).snd.snd == 0) = true
                              refine ⟨?_, ?_⟩
                              · skip
                                intro h -- ((oneF ((rsF (c, l) (-1)).fst, true)).snd.fst == (oneF ((c, l), e)).snd.fst) = true
                                refine ⟨((oneF ((rsF (c, l) (-1)).1, true)).1.1, (oneF ((c, l), e)).1.1), ⟨.agg2 (.refl _) (.own ..), .agg2 (.refl _) (.own ..), trivial⟩, rfl, f5, ?_⟩
                                refine ⟨?_, ?_⟩
                                · skip
                                  intro h -- decide (((oneF ((rsF (c, l) (-1)).fst, true)).fst.fst, (oneF ((c, l), e)).fst.fst).fst = ((oneF ((rsF (c, l) (-1)).fst, true)).fst.fst, (oneF ((c, l), e)).fst.f
                                  dsimp only at h
                                  refine ⟨(), trivial, rfl, trivial, ?_⟩
                                  exact ⟨.refl _, rfl⟩
                                · skip
                                  intro h -- decide (((oneF ((rsF (c, l) (-1)).fst, true)).fst.fst, (oneF ((c, l), e)).fst.fst).fst = ((oneF ((rsF (c, l) (-1)).fst, true)).fst.fst, (oneF ((c, l), e)).fst.f
                                  dsimp only at h
                                  (rw [(f6 ‹(!decide (right (c, l))) = false› ‹(!e) = false› ‹(!(rsF (c, l) (-1)).2) = false›).2.2] at h; simp at h; done)
                              · skip
                                intro h -- ((oneF ((rsF (c, l) (-1)).fst, true)).snd.fst == (oneF ((c, l), e)).snd.fst) = false
                                (rw [(f6 ‹(!decide (right (c, l))) = false› ‹(!e) = false› ‹(!(rsF (c, l) (-1)).2) = false›).2.1] at h; simp at h; done)
                            · skip
                              intro h -- ((oneF ((rsF (c, l) (-1)).fst, true)).snd.snd == 0) = false
                              (rw [(f6 ‹(!decide (right (c, l))) = false› ‹(!e) = false› ‹(!(rsF (c, l) (-1)).2) = false›).1] at h; simp at h; done)
end Go.Proofs.Ytobadhbdhomjnaa.Ax
