/- Layer norm by the logic: the reference's All; NormExact. -/
import Derived.Test.YtobadhbdhomjnaaNs
set_option linter.unusedVariables false
set_option linter.unusedSimpArgs false
namespace Go.Proofs.Ytobadhbdhomjnaa.Ax
open Go Go.RowKit
theorem aL_never {r : List CC} {out : List CC} (h : ∀ c ∈ r, right c.1) : aL true out r = ([], 1, 0) := by
  rw [aL_dd r true out fun c hc => one_right (h c hc)]; rfl
theorem aL_bad : ∀ (l : List CC) (nv : Bool) (out : List CC), (l.all fun c => decide (right c.1)) = false → aL nv out l = ([], 0, 1)
  | [], _, _, h => by simp at h
  | c :: r, nv, out, h => by
    rw [List.all_cons] at h
    rw [aL]
    by_cases hc : right c.1
    · rw [if_neg (by simp [one_right hc]), aL_bad r _ _ (by simpa [hc] using h)]
    · have e : oneF c = (((0, []), false), 0, 1) := if_neg hc
      rw [e]; rfl
def ref_All : Ctr := { A := List CC, enc := fun l => [conses l], dom := fun l => l.length ≤ 1000000 ∧ ∀ c ∈ l, right c.1, res := fun l id => .tup [consesO (allF l).1 id, I (allF l).2.1] }
set_option maxRecDepth 100000 in
set_option maxHeartbeats 4000000 in
theorem ref_All_ok : CtrSound Try.prog 24 ref_All :=
  ctr_of_ax (env_ok tys_ok (eqs := []) trivial (cs := [(23, ref_Short), (39, ref_there)]) ⟨ref_Short_ok, ref_there_ok, trivial⟩) mixed _ Try.func24 (by kernel_rfl) rfl (fun _ _ => Nat.le_of_ble_eq_true rfl) fun (l : List CC) id hd => by
    have hr : ∀ c ∈ l, right c.1 := hd.2
    have hd : l.length ≤ 1000000 := hd.1
    refine ⟨Nat × List CC, fun s => [(0, conses l), (4, consesO s.2 34), (5, I s.1)], fun _ => [], fun s => s.1 ≤ l.length ∧ aL false s.2 (l.drop s.1) = allF l ∧ s.2.length ≤ s.1 ∧ ∀ y ∈ s.2, y.1.2.length ≤ 4611686018427387904, fun s => l.length - s.1,
      ⟨(0, []), ⟨Nat.zero_le _, rfl, Nat.le_refl _, fun y hy => by cases hy⟩, ⟨⟨rfl, rfl⟩, .refl _, .refl _, .nilO .., trivial⟩⟩, fun ((i, o) : Nat × List CC) hi => ?_⟩
    have hil : i ≤ l.length := hi.1
    have hk : aL false o (l.drop i) = allF l := hi.2.1
    have hol : o.length ≤ i := hi.2.2.1
    have hom : ∀ y ∈ o, y.1.2.length ≤ 4611686018427387904 := hi.2.2.2
    have hwj : IntKind.i64.wrap ((i : Int) + 1) = ((i + 1 : Nat) : Int) := by rw [wrap_eq _ (by omega) (by omega)]; omega
    refine ⟨fun h => ?_, fun h => ?_⟩
    · have hlt : i < l.length := of_decide_lt h
      have hc : right (l.getD i ((0, []), false)).1 := hr _ (getD_mem l i _ hlt)
      have hcl := oneF_len (l.getD i ((0, []), false))
      have hox : ∀ y ∈ o ++ [(oneF (l.getD i ((0, []), false))).1], y.1.2.length ≤ 4611686018427387904 := fun y hy => by
        rcases List.mem_append.1 hy with q | q
        · exact hom y q
        · rw [List.mem_singleton.1 q]; omega
      rw [drop_at ((0, []), false) l i hlt, aL, if_neg (fun q => q (one_right hc)), Bool.false_or] at hk
      have s1 : ((oneF (l.getD i ((0, []), false))).2.1 == 1) = true → allF l = ([], 1, 0) := fun h => by
        rw [← hk, h, aL_never fun c hc => hr c (List.mem_of_mem_drop hc)]
      have s2 : ((oneF (l.getD i ((0, []), false))).2.1 == 1) = false → ((oneF (l.getD i ((0, []), false))).2.1 == 2) = true → aL false o (l.drop (i + 1)) = allF l := fun h h2 => by
        have hz : ((oneF (l.getD i ((0, []), false))).2.1 == 0) = false := by rw [eq_of_beq h2]; rfl
        rw [h, hz] at hk; exact hk
      have hw3 : (oneF (l.getD i ((0, []), false))).2.1 = 0 ∨ (oneF (l.getD i ((0, []), false))).2.1 = 1 ∨ (oneF (l.getD i ((0, []), false))).2.1 = 2 := by
        unfold oneF alwaysF
        rw [if_pos hc]
        split
        · split
          · exact .inr (.inr rfl)
          · exact .inr (.inl rfl)
        · split
          · exact .inr (.inl rfl)
          · exact .inl rfl
      have s3 : ((oneF (l.getD i ((0, []), false))).2.1 == 1) = false → ((oneF (l.getD i ((0, []), false))).2.1 == 2) = false → (o.any (same_pred (oneF (l.getD i ((0, []), false))).1)) = true → aL false o (l.drop (i + 1)) = allF l := fun h h2 h3 => by
        rw [h, h3] at hk; simpa using hk
      have s4 : ((oneF (l.getD i ((0, []), false))).2.1 == 1) = false → ((oneF (l.getD i ((0, []), false))).2.1 == 2) = false → (o.any (same_pred (oneF (l.getD i ((0, []), false))).1)) = false → aL false (o ++ [(oneF (l.getD i ((0, []), false))).1]) (l.drop (i + 1)) = allF l := fun h h2 h3 => by
        have hz : ((oneF (l.getD i ((0, []), false))).2.1 == 0) = true := by
          rcases hw3 with w | w | w
          · rw [w]; rfl
          · rw [w] at h; cases h
          · rw [w] at h2; cases h2
        rw [h, h3, hz] at hk; exact hk
      refine ⟨⟨by omega, by dsimp only; omega⟩, ?_⟩
      refine ⟨l.getD i ((0, []), false), ⟨.agg3 (.refl _) (.refl _) (.refl _), trivial⟩, rfl, hc, ?_⟩
      refine ⟨fun h1 => ?_, fun h1 => ?_⟩
      · exact ⟨.tup2 (by rw [s1 h1]; exact .nilO ..) (.int (by rw [s1 h1])), rfl⟩
      have h1 : ((oneF (l.getD i ((0, []), false))).2.1 == 1) = false := h1
      refine ⟨fun h2 => ?_, fun h2 => ?_⟩
      · have h2 : ((oneF (l.getD i ((0, []), false))).2.1 == 2) = true := h2
        exact ⟨(i + 1, o), ⟨hlt, s2 h1 h2, Nat.le_succ_of_le hol, hom⟩, by show l.length - (i + 1) < l.length - i; omega, ⟨rfl, rfl⟩, .refl _, .int hwj, .refl _, trivial⟩
      have h2 : ((oneF (l.getD i ((0, []), false))).2.1 == 2) = false := h2
      refine ⟨(o, (oneF (l.getD i ((0, []), false))).1), ⟨.own .., .agg3 (.refl _) (.own ..) (.refl _), trivial⟩, rfl, (show o.length ≤ 4611686018427387904 ∧ _ from ⟨by omega, hom⟩), fun h3 => ?_, fun h3 => ?_⟩
      · exact ⟨(i + 1, o), ⟨hlt, s3 h1 h2 h3, Nat.le_succ_of_le hol, hom⟩, by show l.length - (i + 1) < l.length - i; omega, ⟨rfl, rfl⟩, .refl _, .int hwj, .refl _, trivial⟩
      · refine ⟨CC, consC, ((0, []), false), [(oneF (l.getD i ((0, []), false))).1], ⟨rfl, fun _ => rfl⟩, ⟨.refl _, .own .., .refl _, trivial⟩, rfl, ?_⟩
        refine ⟨CC, consC, ((0, []), false), o, [(oneF (l.getD i ((0, []), false))).1], 34, ⟨.refl _, .own ..⟩, fun _ => rfl, (by simp only [List.length_cons, List.length_nil]; omega), ?_⟩
        exact ⟨(i + 1, o ++ [(oneF (l.getD i ((0, []), false))).1]), ⟨hlt, s4 h1 h2 h3, by simp only [List.length_append, List.length_cons, List.length_nil]; omega, hox⟩, by show l.length - (i + 1) < l.length - i; omega, ⟨rfl, rfl⟩, .refl _, .int hwj, .refl _, trivial⟩
    · have hge : i = l.length := of_decide_ge h hil
      subst hge
      rw [List.drop_length, aL] at hk
      have z1 : ((o.length : Int) == 0) = true → allF l = ([], 2, 0) := fun h => by
        have : o = [] := List.eq_nil_of_length_eq_zero (by have := eq_of_beq h; omega)
        rw [← hk, if_neg (by simp), if_pos this]
      have z2 : ((o.length : Int) == 0) = false → allF l = (o, 0, 0) := fun h => by
        rw [← hk, if_neg (by simp), if_neg (fun c => by rw [c] at h; simp at h)]
      refine ⟨?_, ?_⟩
      · skip
        intro h -- (↑(l.length, o).snd.length == 0) = true
        dsimp only at h
        exact ⟨.tup2 (by rw [z1 h]; exact .nilO ..) (.int (by rw [z1 h])), rfl⟩
      · skip
        intro h -- (↑(l.length, o).snd.length == 0) = false
        dsimp only at h
        exact ⟨.tup2 (Sub.ownEq (by rw [z2 h])) (.int (by rw [z2 h])), rfl⟩
def NormExact : Ctr := { A := List CC × List Int, enc := fun x => [conses x.1, ints x.2], dom := fun x => sh39.ok x.1 ∧ sh45.ok x.2, res := fun _ _ => .tt }
set_option maxRecDepth 100000 in
set_option maxHeartbeats 4000000 in
theorem NormExact_ok : CtrSound Try.prog 6 NormExact :=
  ctr_of_ax (env_ok tys_ok (eqs := []) trivial (cs := [(15, Heavy14), (21, ref_Told), (17, norm_All), (20, norm_Holds), (13, norm_One), (19, keep_Cons), (18, keep_TwinCons), (14, keep_Term), (22, ref_Holds), (10, ref_Right), (23, ref_Short), (16, ref_Terms), (24, ref_All), (12, wakes14)])
    ⟨Heavy14_ok, ref_Told_ok, norm_All_ok, norm_Holds_ok, norm_One_ok, keep_Cons_ok, keep_TwinCons_ok, keep_Term_ok, ref_Holds_ok, ref_Right_ok, ref_Short_ok, ref_Terms_ok, ref_All_ok, wakes14_ok, trivial⟩) mixed _ Try.func6 (by kernel_rfl) rfl (fun _ _ => Nat.le_of_ble_eq_true rfl) fun ((l, v) : List CC × List Int) id hd => by
    have hv : v.length ≤ 4611686018427387904 := by
      have : v.length * 8 ≤ 140737488351232 := hd.2.1
      omega
    have hl0 : l.length ≤ 4611686018427387904 := by
      have : l.length * 40 ≤ 140737488351232 := hd.1.1
      omega
    clear hd
    refine ⟨l, ⟨.refl _, trivial⟩, rfl, hl0, fun h1 => ?_, fun h1 => ?_⟩
    · exact ⟨.refl _, rfl⟩
    have h1 : (decide (l.length > 60) || l.any fun c => decide (c.1.2.length > 60)) = false := h1
    rw [Bool.or_eq_false_iff] at h1
    have hl : l.length ≤ 60 := by have := of_decide_eq_false h1.1; omega
    have hm : ∀ c ∈ l, c.1.2.length ≤ 60 := fun c hc => by have := List.any_eq_false.1 h1.2 c hc; simp at this; omega
    refine ⟨fun h2 => ?_, fun h2 => ?_⟩
    · exact ⟨.refl _, rfl⟩
    refine ⟨l, ⟨.refl _, trivial⟩, rfl, (show l.length ≤ 1000000 ∧ _ from ⟨by omega, fun c hc => by have := hm c hc; omega⟩), ?_⟩
    refine ⟨Nat, fun i => [(0, conses l), (1, ints v), (5, conses l), (6, I i)], fun _ => [], fun i => i ≤ l.length, fun i => l.length - i, ⟨0, Nat.zero_le _, ⟨⟨rfl, rfl⟩, ?_⟩⟩, fun (i : Nat) hi => ?_⟩
    · refine ⟨?_, ?_⟩
      · exact .refl _
      · skip
        refine ⟨?_, ?_⟩
        · exact .refl _
        · skip
          refine ⟨?_, ?_⟩
          · exact .own ..
          · skip
            refine ⟨?_, ?_⟩
            · exact .refl _
            · skip
              exact trivial
    have hil : i ≤ l.length := hi
    have hwj : IntKind.i64.wrap ((i : Int) + 1) = ((i + 1 : Nat) : Int) := by rw [wrap_eq _ (by omega) (by omega)]; omega
    refine ⟨fun h => ?_, fun h => ?_⟩
    · have hlt : i < l.length := of_decide_lt h
      refine Exists.elim (show ∃ c, l.getD i ((0, []), false) = c from ⟨_, rfl⟩) fun c hc => ?_
      have b0 : 0 ≤ (i : Int) ∧ (i : Int) < (l.length : Int) := ⟨by omega, by omega⟩
      have bt : (i : Int).toNat = i := rfl
      have x1 : (holdsF (l.getD i ((0, []), false)) v).2 = (valueF (l.getD i ((0, []), false)).1 v).2 := by unfold holdsF; split <;> simp_all
      have x2 : ((valueF (l.getD i ((0, []), false)).1 v).2 != 0) = true → (holdsF (l.getD i ((0, []), false)) v).1 = false := fun h => by unfold holdsF; rw [if_neg (by simpa using h)]
      have x3 : (!decide (right (l.getD i ((0, []), false)).1)) = true → oneF (l.getD i ((0, []), false)) = (((0, []), false), 0, 1) := fun h => if_neg (of_decide_eq_false (ynot h))
      have x4 : (!decide (right (l.getD i ((0, []), false)).1)) = false → (oneF (l.getD i ((0, []), false))).2.2 = 0 := fun h => one_right (of_decide_eq_true (nnot h))
      have x5 := oneF_len (l.getD i ((0, []), false))
      refine ⟨?_, ?_⟩
      · exact b0
      · skip
        refine ⟨l.getD i ((0, []), false), ⟨.agg3 (.refl _) (.refl _) (.refl _), trivial⟩, rfl, trivial, ?_⟩
        refine ⟨?_, ?_⟩
        · exact b0
        · skip
          refine ⟨(l.getD i ((0, []), false), v), ⟨.agg3 (.refl _) (.refl _) (.refl _), .refl _, trivial⟩, rfl, hv, ?_⟩
          refine ⟨?_, ?_⟩
          · exact b0
          · skip
            refine ⟨((l.getD i ((0, []), false)).1, v), ⟨.agg2 (.refl _) (.refl _), .refl _, trivial⟩, rfl, hv, ?_⟩
            refine ⟨?_, ?_⟩
            · skip
              intro h -- ((holdsF (l.getD i ((0, []), false), v).fst (l.getD i ((0, []), false), v).snd).snd != (valueF ((l.getD i ((0, []), false)).fst, v).fst ((l.getD i ((0, []), fal
              dsimp only at h
              (rw [x1] at h; simp at h; done)
            · skip
              intro h -- ((holdsF (l.getD i ((0, []), false), v).fst (l.getD i ((0, []), false), v).snd).snd != (valueF ((l.getD i ((0, []), false)).fst, v).fst ((l.getD i ((0, []), fal
              dsimp only at h
              refine ⟨?_, ?_⟩
              · skip
                intro h -- ((valueF ((l.getD i ((0, []), false)).fst, v).fst ((l.getD i ((0, []), false)).fst, v).snd).snd == 0) = true
                dsimp only at h
                refine ⟨?_, ?_⟩
                · exact b0
                · skip
                  refine ⟨(l.getD i ((0, []), false), v), ⟨.agg3 (.refl _) (.refl _) (.refl _), .refl _, trivial⟩, rfl, (show (valueF (l.getD i ((0, []), false)).1 v).2 = 0 from eq_of_beq ‹((valueF (l.getD i ((0, []), false)).1 v).2 == 0) = true›), ?_⟩
                  refine ⟨?_, ?_⟩
                  · skip
                    intro h -- (!(holdsF (l.getD i ((0, []), false), v).fst (l.getD i ((0, []), false), v).snd).fst == (holdsF (l.getD i ((0, []), false), v).fst (l.getD i ((0, []), false), v
                    dsimp only at h
                    (simp at h; done)
                  · skip
                    intro h -- (!(holdsF (l.getD i ((0, []), false), v).fst (l.getD i ((0, []), false), v).snd).fst == (holdsF (l.getD i ((0, []), false), v).fst (l.getD i ((0, []), false), v
                    dsimp only at h
                    refine ⟨?_, ?_⟩
                    · skip
                      intro h -- ((valueF ((l.getD i ((0, []), false)).fst, v).fst ((l.getD i ((0, []), false)).fst, v).snd).snd != 0) = true
                      dsimp only at h
                      refine ⟨?_, ?_⟩
                      · skip
                        intro h -- (holdsF (l.getD i ((0, []), false), v).fst (l.getD i ((0, []), false), v).snd).fst = true
                        dsimp only at h
                        (exact Bool.noConfusion (h.symm.trans (x2 ‹((valueF (l.getD i ((0, []), false)).1 v).2 != 0) = true›)))
                      · skip
                        intro h -- (holdsF (l.getD i ((0, []), false), v).fst (l.getD i ((0, []), false), v).snd).fst = false
                        dsimp only at h
                        refine ⟨?_, ?_⟩
                        · exact b0
                        · skip
                          refine ⟨(l.getD i ((0, []), false)).1, ⟨.agg2 (.refl _) (.refl _), trivial⟩, rfl, trivial, ?_⟩
                          refine ⟨?_, ?_⟩
                          · skip
                            intro h -- (!decide (right (l.getD i ((0, []), false)).fst)) = true
                            refine ⟨?_, ?_⟩
                            · skip
                              intro h -- ((oneF (l.getD i ((0, []), false))).snd.snd != 1) = true
                              (rw [x3 ‹(!decide (right (l.getD i ((0, []), false)).1)) = true›] at h; simp at h; done)
                            · skip
                              intro h -- ((oneF (l.getD i ((0, []), false))).snd.snd != 1) = false
                              refine ⟨?_, ?_⟩
                              · skip
                                intro h -- ((oneF (l.getD i ((0, []), false))).snd.fst != 0) = true
                                (rw [x3 ‹(!decide (right (l.getD i ((0, []), false)).1)) = true›] at h; simp at h; done)
                              · skip
                                intro h -- ((oneF (l.getD i ((0, []), false))).snd.fst != 0) = false
                                refine ⟨((oneF (l.getD i ((0, []), false))).1.1, (0, [])), ⟨.agg2 (.refl _) (.own ..), .agg2 (.refl _) (.nil ..), trivial⟩, rfl, (by show (oneF (l.getD i ((0, []), false))).1.1.2.length ≤ 4611686018427387904; omega), ?_⟩
                                refine ⟨?_, ?_⟩
                                · skip
                                  intro h -- (!decide (((oneF (l.getD i ((0, []), false))).fst.fst, 0, []).fst = ((oneF (l.getD i ((0, []), false))).fst.fst, 0, []).snd)) = true
                                  dsimp only at h
                                  (rw [x3 ‹(!decide (right (l.getD i ((0, []), false)).1)) = true›] at h; simp at h; done)
                                · skip
                                  intro h -- (!decide (((oneF (l.getD i ((0, []), false))).fst.fst, 0, []).fst = ((oneF (l.getD i ((0, []), false))).fst.fst, 0, []).snd)) = false
                                  dsimp only at h
                                  exact ⟨i + 1, hlt, by show l.length - (i + 1) < l.length - i; omega, ⟨rfl, rfl⟩, .refl _, .refl _, .refl _, .int hwj, trivial⟩
                          · skip
                            intro h -- (!decide (right (l.getD i ((0, []), false)).fst)) = false
                            refine ⟨?_, ?_⟩
                            · exact b0
                            · skip
                              refine ⟨l.getD i ((0, []), false), ⟨.agg3 (.refl _) (.refl _) (.refl _), trivial⟩, rfl, (show right (l.getD i ((0, []), false)).1 from of_decide_eq_true (nnot ‹(!decide (right (l.getD i ((0, []), false)).1)) = false›)), ?_⟩
                              refine ⟨?_, ?_⟩
                              · skip
                                intro h -- ((oneF (l.getD i ((0, []), false))).snd.snd != 0) = true
                                (rw [x4 ‹(!decide (right (l.getD i ((0, []), false)).1)) = false›] at h; simp at h; done)
                              · skip
                                intro h -- ((oneF (l.getD i ((0, []), false))).snd.snd != 0) = false
                                refine ⟨?_, ?_⟩
                                · skip
                                  intro h -- ((oneF (l.getD i ((0, []), false))).snd.fst != (oneF (l.getD i ((0, []), false))).snd.fst) = true
                                  (simp at h; done)
                                · skip
                                  intro h -- ((oneF (l.getD i ((0, []), false))).snd.fst != (oneF (l.getD i ((0, []), false))).snd.fst) = false
                                  refine ⟨?_, ?_⟩
                                  · skip
                                    intro h -- (!(oneF (l.getD i ((0, []), false))).fst.snd == (oneF (l.getD i ((0, []), false))).fst.snd) = true
                                    (simp at h; done)
                                  · skip
                                    intro h -- (!(oneF (l.getD i ((0, []), false))).fst.snd == (oneF (l.getD i ((0, []), false))).fst.snd) = false
                                    refine ⟨((oneF (l.getD i ((0, []), false))).1.1, (oneF (l.getD i ((0, []), false))).1.1), ⟨.agg2 (.refl _) (.own ..), .agg2 (.refl _) (.own ..), trivial⟩, rfl, (by show (oneF (l.getD i ((0, []), false))).1.1.2.length ≤ 4611686018427387904; omega), ?_⟩
                                    refine ⟨?_, ?_⟩
                                    · skip
                                      intro h -- (!decide (((oneF (l.getD i ((0, []), false))).fst.fst, (oneF (l.getD i ((0, []), false))).fst.fst).fst = ((oneF (l.getD i ((0, []), false))).fst.fst, (oneF (l.g
                                      dsimp only at h
                                      (simp at h; done)
                                    · skip
                                      intro h -- (!decide (((oneF (l.getD i ((0, []), false))).fst.fst, (oneF (l.getD i ((0, []), false))).fst.fst).fst = ((oneF (l.getD i ((0, []), false))).fst.fst, (oneF (l.g
                                      dsimp only at h
                                      exact ⟨i + 1, hlt, by show l.length - (i + 1) < l.length - i; omega, ⟨rfl, rfl⟩, .refl _, .refl _, .refl _, .int hwj, trivial⟩
                    · skip
                      intro h -- ((valueF ((l.getD i ((0, []), false)).fst, v).fst ((l.getD i ((0, []), false)).fst, v).snd).snd != 0) = false
                      dsimp only at h
                      refine ⟨?_, ?_⟩
                      · exact b0
                      · skip
                        refine ⟨(l.getD i ((0, []), false)).1, ⟨.agg2 (.refl _) (.refl _), trivial⟩, rfl, trivial, ?_⟩
                        refine ⟨?_, ?_⟩
                        · skip
                          intro h -- (!decide (right (l.getD i ((0, []), false)).fst)) = true
                          refine ⟨?_, ?_⟩
                          · skip
                            intro h -- ((oneF (l.getD i ((0, []), false))).snd.snd != 1) = true
                            (rw [x3 ‹(!decide (right (l.getD i ((0, []), false)).1)) = true›] at h; simp at h; done)
                          · skip
                            intro h -- ((oneF (l.getD i ((0, []), false))).snd.snd != 1) = false
                            refine ⟨?_, ?_⟩
                            · skip
                              intro h -- ((oneF (l.getD i ((0, []), false))).snd.fst != 0) = true
                              (rw [x3 ‹(!decide (right (l.getD i ((0, []), false)).1)) = true›] at h; simp at h; done)
                            · skip
                              intro h -- ((oneF (l.getD i ((0, []), false))).snd.fst != 0) = false
                              refine ⟨((oneF (l.getD i ((0, []), false))).1.1, (0, [])), ⟨.agg2 (.refl _) (.own ..), .agg2 (.refl _) (.nil ..), trivial⟩, rfl, (by show (oneF (l.getD i ((0, []), false))).1.1.2.length ≤ 4611686018427387904; omega), ?_⟩
                              refine ⟨?_, ?_⟩
                              · skip
                                intro h -- (!decide (((oneF (l.getD i ((0, []), false))).fst.fst, 0, []).fst = ((oneF (l.getD i ((0, []), false))).fst.fst, 0, []).snd)) = true
                                dsimp only at h
                                (rw [x3 ‹(!decide (right (l.getD i ((0, []), false)).1)) = true›] at h; simp at h; done)
                              · skip
                                intro h -- (!decide (((oneF (l.getD i ((0, []), false))).fst.fst, 0, []).fst = ((oneF (l.getD i ((0, []), false))).fst.fst, 0, []).snd)) = false
                                dsimp only at h
                                exact ⟨i + 1, hlt, by show l.length - (i + 1) < l.length - i; omega, ⟨rfl, rfl⟩, .refl _, .refl _, .refl _, .int hwj, trivial⟩
                        · skip
                          intro h -- (!decide (right (l.getD i ((0, []), false)).fst)) = false
                          refine ⟨?_, ?_⟩
                          · exact b0
                          · skip
                            refine ⟨l.getD i ((0, []), false), ⟨.agg3 (.refl _) (.refl _) (.refl _), trivial⟩, rfl, (show right (l.getD i ((0, []), false)).1 from of_decide_eq_true (nnot ‹(!decide (right (l.getD i ((0, []), false)).1)) = false›)), ?_⟩
                            refine ⟨?_, ?_⟩
                            · skip
                              intro h -- ((oneF (l.getD i ((0, []), false))).snd.snd != 0) = true
                              (rw [x4 ‹(!decide (right (l.getD i ((0, []), false)).1)) = false›] at h; simp at h; done)
                            · skip
                              intro h -- ((oneF (l.getD i ((0, []), false))).snd.snd != 0) = false
                              refine ⟨?_, ?_⟩
                              · skip
                                intro h -- ((oneF (l.getD i ((0, []), false))).snd.fst != (oneF (l.getD i ((0, []), false))).snd.fst) = true
                                (simp at h; done)
                              · skip
                                intro h -- ((oneF (l.getD i ((0, []), false))).snd.fst != (oneF (l.getD i ((0, []), false))).snd.fst) = false
                                refine ⟨?_, ?_⟩
                                · skip
                                  intro h -- (!(oneF (l.getD i ((0, []), false))).fst.snd == (oneF (l.getD i ((0, []), false))).fst.snd) = true
                                  (simp at h; done)
                                · skip
                                  intro h -- (!(oneF (l.getD i ((0, []), false))).fst.snd == (oneF (l.getD i ((0, []), false))).fst.snd) = false
                                  refine ⟨((oneF (l.getD i ((0, []), false))).1.1, (oneF (l.getD i ((0, []), false))).1.1), ⟨.agg2 (.refl _) (.own ..), .agg2 (.refl _) (.own ..), trivial⟩, rfl, (by show (oneF (l.getD i ((0, []), false))).1.1.2.length ≤ 4611686018427387904; omega), ?_⟩
                                  refine ⟨?_, ?_⟩
                                  · skip
                                    intro h -- (!decide (((oneF (l.getD i ((0, []), false))).fst.fst, (oneF (l.getD i ((0, []), false))).fst.fst).fst = ((oneF (l.getD i ((0, []), false))).fst.fst, (oneF (l.g
                                    dsimp only at h
                                    (simp at h; done)
                                  · skip
                                    intro h -- (!decide (((oneF (l.getD i ((0, []), false))).fst.fst, (oneF (l.getD i ((0, []), false))).fst.fst).fst = ((oneF (l.getD i ((0, []), false))).fst.fst, (oneF (l.g
                                    dsimp only at h
                                    exact ⟨i + 1, hlt, by show l.length - (i + 1) < l.length - i; omega, ⟨rfl, rfl⟩, .refl _, .refl _, .refl _, .int hwj, trivial⟩
              · skip
                intro h -- ((valueF ((l.getD i ((0, []), false)).fst, v).fst ((l.getD i ((0, []), false)).fst, v).snd).snd == 0) = false
                dsimp only at h
                refine ⟨?_, ?_⟩
                · skip
                  intro h -- ((valueF ((l.getD i ((0, []), false)).fst, v).fst ((l.getD i ((0, []), false)).fst, v).snd).snd != 0) = true
                  dsimp only at h
                  refine ⟨?_, ?_⟩
                  · skip
                    intro h -- (holdsF (l.getD i ((0, []), false), v).fst (l.getD i ((0, []), false), v).snd).fst = true
                    dsimp only at h
                    (exact Bool.noConfusion (h.symm.trans (x2 ‹((valueF (l.getD i ((0, []), false)).1 v).2 != 0) = true›)))
                  · skip
                    intro h -- (holdsF (l.getD i ((0, []), false), v).fst (l.getD i ((0, []), false), v).snd).fst = false
                    dsimp only at h
                    refine ⟨?_, ?_⟩
                    · exact b0
                    · skip
                      refine ⟨(l.getD i ((0, []), false)).1, ⟨.agg2 (.refl _) (.refl _), trivial⟩, rfl, trivial, ?_⟩
                      refine ⟨?_, ?_⟩
                      · skip
                        intro h -- (!decide (right (l.getD i ((0, []), false)).fst)) = true
                        refine ⟨?_, ?_⟩
                        · skip
                          intro h -- ((oneF (l.getD i ((0, []), false))).snd.snd != 1) = true
                          (rw [x3 ‹(!decide (right (l.getD i ((0, []), false)).1)) = true›] at h; simp at h; done)
                        · skip
                          intro h -- ((oneF (l.getD i ((0, []), false))).snd.snd != 1) = false
                          refine ⟨?_, ?_⟩
                          · skip
                            intro h -- ((oneF (l.getD i ((0, []), false))).snd.fst != 0) = true
                            (rw [x3 ‹(!decide (right (l.getD i ((0, []), false)).1)) = true›] at h; simp at h; done)
                          · skip
                            intro h -- ((oneF (l.getD i ((0, []), false))).snd.fst != 0) = false
                            refine ⟨((oneF (l.getD i ((0, []), false))).1.1, (0, [])), ⟨.agg2 (.refl _) (.own ..), .agg2 (.refl _) (.nil ..), trivial⟩, rfl, (by show (oneF (l.getD i ((0, []), false))).1.1.2.length ≤ 4611686018427387904; omega), ?_⟩
                            refine ⟨?_, ?_⟩
                            · skip
                              intro h -- (!decide (((oneF (l.getD i ((0, []), false))).fst.fst, 0, []).fst = ((oneF (l.getD i ((0, []), false))).fst.fst, 0, []).snd)) = true
                              dsimp only at h
                              (rw [x3 ‹(!decide (right (l.getD i ((0, []), false)).1)) = true›] at h; simp at h; done)
                            · skip
                              intro h -- (!decide (((oneF (l.getD i ((0, []), false))).fst.fst, 0, []).fst = ((oneF (l.getD i ((0, []), false))).fst.fst, 0, []).snd)) = false
                              dsimp only at h
                              exact ⟨i + 1, hlt, by show l.length - (i + 1) < l.length - i; omega, ⟨rfl, rfl⟩, .refl _, .refl _, .refl _, .int hwj, trivial⟩
                      · skip
                        intro h -- (!decide (right (l.getD i ((0, []), false)).fst)) = false
                        refine ⟨?_, ?_⟩
                        · exact b0
                        · skip
                          refine ⟨l.getD i ((0, []), false), ⟨.agg3 (.refl _) (.refl _) (.refl _), trivial⟩, rfl, (show right (l.getD i ((0, []), false)).1 from of_decide_eq_true (nnot ‹(!decide (right (l.getD i ((0, []), false)).1)) = false›)), ?_⟩
                          refine ⟨?_, ?_⟩
                          · skip
                            intro h -- ((oneF (l.getD i ((0, []), false))).snd.snd != 0) = true
                            (rw [x4 ‹(!decide (right (l.getD i ((0, []), false)).1)) = false›] at h; simp at h; done)
                          · skip
                            intro h -- ((oneF (l.getD i ((0, []), false))).snd.snd != 0) = false
                            refine ⟨?_, ?_⟩
                            · skip
                              intro h -- ((oneF (l.getD i ((0, []), false))).snd.fst != (oneF (l.getD i ((0, []), false))).snd.fst) = true
                              (simp at h; done)
                            · skip
                              intro h -- ((oneF (l.getD i ((0, []), false))).snd.fst != (oneF (l.getD i ((0, []), false))).snd.fst) = false
                              refine ⟨?_, ?_⟩
                              · skip
                                intro h -- (!(oneF (l.getD i ((0, []), false))).fst.snd == (oneF (l.getD i ((0, []), false))).fst.snd) = true
                                (simp at h; done)
                              · skip
                                intro h -- (!(oneF (l.getD i ((0, []), false))).fst.snd == (oneF (l.getD i ((0, []), false))).fst.snd) = false
                                refine ⟨((oneF (l.getD i ((0, []), false))).1.1, (oneF (l.getD i ((0, []), false))).1.1), ⟨.agg2 (.refl _) (.own ..), .agg2 (.refl _) (.own ..), trivial⟩, rfl, (by show (oneF (l.getD i ((0, []), false))).1.1.2.length ≤ 4611686018427387904; omega), ?_⟩
                                refine ⟨?_, ?_⟩
                                · skip
                                  intro h -- (!decide (((oneF (l.getD i ((0, []), false))).fst.fst, (oneF (l.getD i ((0, []), false))).fst.fst).fst = ((oneF (l.getD i ((0, []), false))).fst.fst, (oneF (l.g
                                  dsimp only at h
                                  (simp at h; done)
                                · skip
                                  intro h -- (!decide (((oneF (l.getD i ((0, []), false))).fst.fst, (oneF (l.getD i ((0, []), false))).fst.fst).fst = ((oneF (l.getD i ((0, []), false))).fst.fst, (oneF (l.g
                                  dsimp only at h
                                  exact ⟨i + 1, hlt, by show l.length - (i + 1) < l.length - i; omega, ⟨rfl, rfl⟩, .refl _, .refl _, .refl _, .int hwj, trivial⟩
                · skip
                  intro h -- ((valueF ((l.getD i ((0, []), false)).fst, v).fst ((l.getD i ((0, []), false)).fst, v).snd).snd != 0) = false
                  dsimp only at h
                  refine ⟨?_, ?_⟩
                  · exact b0
                  · skip
                    refine ⟨(l.getD i ((0, []), false)).1, ⟨.agg2 (.refl _) (.refl _), trivial⟩, rfl, trivial, ?_⟩
                    refine ⟨?_, ?_⟩
                    · skip
                      intro h -- (!decide (right (l.getD i ((0, []), false)).fst)) = true
                      refine ⟨?_, ?_⟩
                      · skip
                        intro h -- ((oneF (l.getD i ((0, []), false))).snd.snd != 1) = true
                        (rw [x3 ‹(!decide (right (l.getD i ((0, []), false)).1)) = true›] at h; simp at h; done)
                      · skip
                        intro h -- ((oneF (l.getD i ((0, []), false))).snd.snd != 1) = false
                        refine ⟨?_, ?_⟩
                        · skip
                          intro h -- ((oneF (l.getD i ((0, []), false))).snd.fst != 0) = true
                          (rw [x3 ‹(!decide (right (l.getD i ((0, []), false)).1)) = true›] at h; simp at h; done)
                        · skip
                          intro h -- ((oneF (l.getD i ((0, []), false))).snd.fst != 0) = false
                          refine ⟨((oneF (l.getD i ((0, []), false))).1.1, (0, [])), ⟨.agg2 (.refl _) (.own ..), .agg2 (.refl _) (.nil ..), trivial⟩, rfl, (by show (oneF (l.getD i ((0, []), false))).1.1.2.length ≤ 4611686018427387904; omega), ?_⟩
                          refine ⟨?_, ?_⟩
                          · skip
                            intro h -- (!decide (((oneF (l.getD i ((0, []), false))).fst.fst, 0, []).fst = ((oneF (l.getD i ((0, []), false))).fst.fst, 0, []).snd)) = true
                            dsimp only at h
                            (rw [x3 ‹(!decide (right (l.getD i ((0, []), false)).1)) = true›] at h; simp at h; done)
                          · skip
                            intro h -- (!decide (((oneF (l.getD i ((0, []), false))).fst.fst, 0, []).fst = ((oneF (l.getD i ((0, []), false))).fst.fst, 0, []).snd)) = false
                            dsimp only at h
                            exact ⟨i + 1, hlt, by show l.length - (i + 1) < l.length - i; omega, ⟨rfl, rfl⟩, .refl _, .refl _, .refl _, .int hwj, trivial⟩
                    · skip
                      intro h -- (!decide (right (l.getD i ((0, []), false)).fst)) = false
                      refine ⟨?_, ?_⟩
                      · exact b0
                      · skip
                        refine ⟨l.getD i ((0, []), false), ⟨.agg3 (.refl _) (.refl _) (.refl _), trivial⟩, rfl, (show right (l.getD i ((0, []), false)).1 from of_decide_eq_true (nnot ‹(!decide (right (l.getD i ((0, []), false)).1)) = false›)), ?_⟩
                        refine ⟨?_, ?_⟩
                        · skip
                          intro h -- ((oneF (l.getD i ((0, []), false))).snd.snd != 0) = true
                          (rw [x4 ‹(!decide (right (l.getD i ((0, []), false)).1)) = false›] at h; simp at h; done)
                        · skip
                          intro h -- ((oneF (l.getD i ((0, []), false))).snd.snd != 0) = false
                          refine ⟨?_, ?_⟩
                          · skip
                            intro h -- ((oneF (l.getD i ((0, []), false))).snd.fst != (oneF (l.getD i ((0, []), false))).snd.fst) = true
                            (simp at h; done)
                          · skip
                            intro h -- ((oneF (l.getD i ((0, []), false))).snd.fst != (oneF (l.getD i ((0, []), false))).snd.fst) = false
                            refine ⟨?_, ?_⟩
                            · skip
                              intro h -- (!(oneF (l.getD i ((0, []), false))).fst.snd == (oneF (l.getD i ((0, []), false))).fst.snd) = true
                              (simp at h; done)
                            · skip
                              intro h -- (!(oneF (l.getD i ((0, []), false))).fst.snd == (oneF (l.getD i ((0, []), false))).fst.snd) = false
                              refine ⟨((oneF (l.getD i ((0, []), false))).1.1, (oneF (l.getD i ((0, []), false))).1.1), ⟨.agg2 (.refl _) (.own ..), .agg2 (.refl _) (.own ..), trivial⟩, rfl, (by show (oneF (l.getD i ((0, []), false))).1.1.2.length ≤ 4611686018427387904; omega), ?_⟩
                              refine ⟨?_, ?_⟩
                              · skip
                                intro h -- (!decide (((oneF (l.getD i ((0, []), false))).fst.fst, (oneF (l.getD i ((0, []), false))).fst.fst).fst = ((oneF (l.getD i ((0, []), false))).fst.fst, (oneF (l.g
                                dsimp only at h
                                (simp at h; done)
                              · skip
                                intro h -- (!decide (((oneF (l.getD i ((0, []), false))).fst.fst, (oneF (l.getD i ((0, []), false))).fst.fst).fst = ((oneF (l.getD i ((0, []), false))).fst.fst, (oneF (l.g
                                dsimp only at h
                                exact ⟨i + 1, hlt, by show l.length - (i + 1) < l.length - i; omega, ⟨rfl, rfl⟩, .refl _, .refl _, .refl _, .int hwj, trivial⟩
    have hge : i = l.length := of_decide_ge h hil
    subst hge
    refine ⟨l, ⟨.refl _, trivial⟩, rfl, (show l.length ≤ 1000000 by omega), ?_⟩
    refine ⟨(l, l), ⟨.refl _, .refl _, trivial⟩, rfl, (show l.length ≤ 4611686018427387904 ∧ _ from ⟨by omega, fun c hc => by have := hm c hc; omega⟩), fun h3 => ?_, fun h3 => ?_⟩
    · have h3 : (!decide (l = l)) = true := h3
      simp at h3
    refine ⟨l, ⟨.refl _, trivial⟩, rfl, hl0, fun h4 => ?_, fun h4 => ?_⟩
    · have e0 : allF l = ([], 0, 1) := aL_bad l false [] (ynot h4)
      refine ⟨?_, ?_⟩
      · skip
        intro h -- ((allF l).snd.snd == 1) = true
        refine ⟨?_, ?_⟩
        · skip
          intro h -- ((allF l).snd.fst == 0) = true
          refine ⟨?_, ?_⟩
          · skip
            intro h -- (↑(allF l).fst.length == 0) = true
            refine ⟨(), trivial, rfl, trivial, ?_⟩
            exact ⟨.refl _, rfl⟩
          · skip
            intro h -- (↑(allF l).fst.length == 0) = false
            (rw [e0] at h; simp at h; done)
        · skip
          intro h -- ((allF l).snd.fst == 0) = false
          (rw [e0] at h; simp at h; done)
      · skip
        intro h -- ((allF l).snd.snd == 1) = false
        (rw [e0] at h; simp at h; done)
    have hr : ∀ c ∈ l, right c.1 := fun c hc => by
      have h4 : (l.all fun c => decide (right c.1)) = true := nnot h4
      exact of_decide_eq_true (List.all_eq_true.1 h4 c hc)
    have F := order_facts hr
    have g1 := F.1
    have g6 := F.2.2.2.2.2.1
    have g7 := F.2.2.2.2.2.2
    clear F
    refine ⟨l, ⟨.refl _, trivial⟩, rfl, (show l.length ≤ 1000000 ∧ _ from ⟨by omega, hr⟩), ?_⟩
    refine ⟨?_, ?_⟩
    · skip
      intro h -- ((allF l).snd.snd == 0) = true
      refine ⟨?_, ?_⟩
      · skip
        intro h -- ((allF l).snd.fst == (allF l).snd.fst) = true
        refine ⟨((allF l).1, (allF l).1), ⟨.own .., .own .., trivial⟩, rfl, (show (allF l).1.length ≤ 4611686018427387904 ∧ _ from ⟨by omega, fun y hy => by have := g7 y hy; omega⟩), ?_⟩
        refine ⟨?_, ?_⟩
        · skip
          intro h -- decide (((allF l).fst, (allF l).fst).fst = ((allF l).fst, (allF l).fst).snd) = true
          dsimp only at h
          refine ⟨(), trivial, rfl, trivial, ?_⟩
          exact ⟨.refl _, rfl⟩
        · skip
          intro h -- decide (((allF l).fst, (allF l).fst).fst = ((allF l).fst, (allF l).fst).snd) = false
          dsimp only at h
          (simp at h; done)
      · skip
        intro h -- ((allF l).snd.fst == (allF l).snd.fst) = false
        (simp at h; done)
    · skip
      intro h -- ((allF l).snd.snd == 0) = false
      (rw [g1] at h; simp at h; done)
end Go.Proofs.Ytobadhbdhomjnaa.Ax
