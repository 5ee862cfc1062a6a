/- Layer term by the logic: TermKs. -/
import Derived.Test.YtddcbnillkefhaaTr
set_option linter.unusedVariables false
set_option linter.unusedSimpArgs false
namespace Go.Proofs.Ytddcbnillkefhaa.Ax
open Go Go.RowKit
theorem ks_add {a b : Int × List (Int × Int)} (v : Int) (h : (addF a b).2 = 0) : kF (addF a b).1.2 v = IntKind.i64.wrap (kF a.2 v + kF b.2 v) ∧ (addF a b).1.1 = IntKind.i64.wrap (a.1 + b.1) := by
  obtain ⟨h1, h2, h3, h4⟩ := add_ok h
  have o1 := ((right_iff a).1 h1).2.2
  have o2 := ((right_iff b).1 h2).2.2
  have b1 := kF_bound v a.2 _ o1
  have b2 := kF_bound v b.2 _ o2
  rw [h4]
  refine ⟨?_, rfl⟩
  rw [wrap_eq _ (by omega) (by omega)]
  exact kF_mg v a.2 b.2 _ o1 o2
theorem mulK (a b : Int) (ha : -1000 ≤ a ∧ a ≤ 1000) (hb : -1099511627776 ≤ b ∧ b ≤ 1099511627776) : -1099511627776000 ≤ a * b ∧ a * b ≤ 1099511627776000 := by
  have h1 : (a * b).natAbs ≤ 1000 * 1099511627776 := by rw [Int.natAbs_mul]; exact Nat.mul_le_mul (by omega) (by omega)
  omega
theorem ks_scale {a : Int × List (Int × Int)} {k : Int} (v : Int) (hk : -1000 ≤ k ∧ k ≤ 1000) (h : (scaleF a k).2 = 0) : kF (scaleF a k).1.2 v = IntKind.i64.wrap (k * kF a.2 v) ∧ (scaleF a k).1.1 = IntKind.i64.wrap (k * a.1) := by
  obtain ⟨h1, h2, h3, h4⟩ := scale_ok h
  obtain ⟨⟨c1, c2⟩, _, o1⟩ := (right_iff a).1 h1
  have b1 := kF_bound v a.2 _ o1
  have m1 := mulK k _ hk (show -1099511627776 ≤ kF a.2 v ∧ kF a.2 v ≤ 1099511627776 by omega)
  have m2 := mulK k _ hk ⟨c1, c2⟩
  rw [h4, wrap_eq _ (by omega) (by omega), wrap_eq _ (by omega) (by omega)]
  exact ⟨kF_scL k v a.2 _ o1 h3, by rw [Int.mul_comm]; exact (times_ok a.1 k _ (by omega) (by omega) h2).1⟩
theorem ks_mod (k : Int) : -1000 ≤ k.tmod 1000 ∧ k.tmod 1000 ≤ 1000 := by
  have h1 := Int.natAbs_tmod k 1000
  have h2 : k.natAbs % 1000 < 1000 := Nat.mod_lt _ (by omega)
  have h3 : (k.tmod 1000).natAbs = k.natAbs % 1000 := by rw [h1]; rfl
  omega
def TermKs : Ctr := { A := (Int × List (Int × Int)) × (Int × List (Int × Int)) × Int × Int, enc := fun x => [termS x.1, termS x.2.1, I x.2.2.1, I x.2.2.2], dom := fun _ => True, res := fun _ _ => .tt }
set_option maxRecDepth 100000 in
set_option maxHeartbeats 4000000 in
theorem TermKs_ok : CtrSound Try.prog 4 TermKs :=
  ctr_of_ax (env_ok tys_ok (eqs := []) trivial (cs := [(14, Heavy13), (15, ref_Right), (9, term_Scale), (10, term_Add), (12, term_K), (13, wakes13)]) ⟨Heavy13_ok, ref_Right_ok, term_Scale_ok, term_Add_ok, term_K_ok, wakes13_ok, trivial⟩) mixed _ Try.func4 (by kernel_rfl) rfl (fun _ _ => Nat.le_of_ble_eq_true rfl) fun ((a, b, v, k) : (Int × List (Int × Int)) × (Int × List (Int × Int)) × Int × Int) id hd => by
    refine ⟨a, ⟨.refl _, trivial⟩, rfl, trivial, fun h1 => ?_, fun h1 => ?_⟩
    · exact ⟨.refl _, rfl⟩
    refine ⟨b, ⟨.refl _, trivial⟩, rfl, trivial, fun h2 => ?_, fun h2 => ?_⟩
    · exact ⟨.refl _, rfl⟩
    refine ⟨a, ⟨.refl _, trivial⟩, rfl, trivial, fun h3 => ?_, fun h3 => ?_⟩
    · exact ⟨.refl _, rfl⟩
    refine ⟨b, ⟨.refl _, trivial⟩, rfl, trivial, fun h4 => ?_, fun h4 => ?_⟩
    · exact ⟨.refl _, rfl⟩
    have ra : right a := of_decide_eq_true (nnot h3)
    have rb : right b := of_decide_eq_true (nnot h4)
    obtain ⟨ca, la, oa⟩ := (right_iff a).1 ra
    obtain ⟨cb, lb, ob⟩ := (right_iff b).1 rb
    have hk := ks_mod k
    refine ⟨by decide, ?_⟩
    refine ⟨(a, b), ⟨.refl _, .refl _, trivial⟩, rfl, trivial, ?_⟩
    refine ⟨by kernel_rfl, ?_⟩
    refine ⟨?_, ?_⟩
    · skip
      intro h -- ((addF (a, b).fst (a, b).snd).snd == 0) = true
      dsimp only at h
      refine ⟨((addF a b).1, v), ⟨.refl _, .refl _, trivial⟩, rfl, (show (addF a b).1.2.length ≤ 1000000000 from by rw [(add_ok (eq_of_beq h)).2.2.2]; have := (add_ok (eq_of_beq h)).2.2.1.2.2.1; omega), ?_⟩
      refine ⟨(a, v), ⟨.refl _, .refl _, trivial⟩, rfl, (show a.2.length ≤ 1000000000 by omega), ?_⟩
      refine ⟨(b, v), ⟨.refl _, .refl _, trivial⟩, rfl, (show b.2.length ≤ 1000000000 by omega), ?_⟩
      refine ⟨?_, ?_⟩
      · skip
        intro h -- (kF ((addF a b).fst, v).fst.snd ((addF a b).fst, v).snd != IntKind.i64.wrap (kF (a, v).fst.snd (a, v).snd + kF (b, v).fst.snd (b, v).snd)) = true
        dsimp only at h
        (rw [(ks_add v (eq_of_beq ‹((addF a b).2 == 0) = true›)).1] at h; simp at h; done)
      · skip
        intro h -- (kF ((addF a b).fst, v).fst.snd ((addF a b).fst, v).snd != IntKind.i64.wrap (kF (a, v).fst.snd (a, v).snd + kF (b, v).fst.snd (b, v).snd)) = false
        dsimp only at h
        refine ⟨?_, ?_⟩
        · skip
          intro h -- ((addF (a, b).fst (a, b).snd).fst.fst != IntKind.i64.wrap ((a, b, v, k).fst.fst + (a, b, v, k).snd.fst.fst)) = true
          dsimp only at h
          (rw [(ks_add v (eq_of_beq ‹((addF a b).2 == 0) = true›)).2] at h; simp at h; done)
        · skip
          intro h -- ((addF (a, b).fst (a, b).snd).fst.fst != IntKind.i64.wrap ((a, b, v, k).fst.fst + (a, b, v, k).snd.fst.fst)) = false
          dsimp only at h
          refine ⟨(a, k.tmod 1000), ⟨.refl _, .refl _, trivial⟩, rfl, trivial, ?_⟩
          refine ⟨?_, ?_⟩
          · kernel_rfl
          · skip
            refine ⟨?_, ?_⟩
            · skip
              intro h -- ((scaleF (a, k.tmod 1000).fst (a, k.tmod 1000).snd).snd == 0) = true
              dsimp only at h
              refine ⟨((scaleF a (k.tmod 1000)).1, v), ⟨.agg2 (.refl _) (.own ..), .refl _, trivial⟩, rfl, (show (scaleF a (k.tmod 1000)).1.2.length ≤ 1000000000 from by rw [(scale_ok (eq_of_beq h)).2.2.2]; have := scL_len (k.tmod 1000) a.2; dsimp only; omega), ?_⟩
              refine ⟨(a, v), ⟨.refl _, .refl _, trivial⟩, rfl, (show a.2.length ≤ 1000000000 by omega), ?_⟩
              refine ⟨?_, ?_⟩
              · skip
                intro h -- (kF ((scaleF a (k.tmod 1000)).fst, v).fst.snd ((scaleF a (k.tmod 1000)).fst, v).snd != IntKind.i64.wrap ((a, b, v, k).snd.snd.snd.tmod 1000 * kF (a, v).fst.snd 
                dsimp only at h
                (rw [(ks_scale v hk (eq_of_beq ‹((scaleF a (k.tmod 1000)).2 == 0) = true›)).1] at h; simp at h; done)
              · skip
                intro h -- (kF ((scaleF a (k.tmod 1000)).fst, v).fst.snd ((scaleF a (k.tmod 1000)).fst, v).snd != IntKind.i64.wrap ((a, b, v, k).snd.snd.snd.tmod 1000 * kF (a, v).fst.snd 
                dsimp only at h
                refine ⟨?_, ?_⟩
                · skip
                  intro h -- ((scaleF (a, k.tmod 1000).fst (a, k.tmod 1000).snd).fst.fst != IntKind.i64.wrap ((a, b, v, k).snd.snd.snd.tmod 1000 * (a, b, v, k).fst.fst)) = true
                  dsimp only at h
                  (rw [(ks_scale v hk (eq_of_beq ‹((scaleF a (k.tmod 1000)).2 == 0) = true›)).2] at h; simp at h; done)
                · skip
                  intro h -- ((scaleF (a, k.tmod 1000).fst (a, k.tmod 1000).snd).fst.fst != IntKind.i64.wrap ((a, b, v, k).snd.snd.snd.tmod 1000 * (a, b, v, k).fst.fst)) = false
                  dsimp only at h
                  refine ⟨(a, -1), ⟨.refl _, .refl _, trivial⟩, rfl, (show a.2.length ≤ 1000000000 by omega), ?_⟩
                  refine ⟨?_, ?_⟩
                  · skip
                    intro h -- (kF (a, -1).fst.snd (a, -1).snd == 0) = true
                    dsimp only at h
                    refine ⟨(a, 40), ⟨.refl _, .refl _, trivial⟩, rfl, (show a.2.length ≤ 1000000000 by omega), ?_⟩
                    refine ⟨?_, ?_⟩
                    · skip
                      intro h -- (kF (a, 40).fst.snd (a, 40).snd == 0) = true
                      dsimp only at h
                      refine ⟨(), trivial, rfl, trivial, ?_⟩
                      exact ⟨.refl _, rfl⟩
                    · skip
                      intro h -- (kF (a, 40).fst.snd (a, 40).snd == 0) = false
                      dsimp only at h
                      (rw [kF_high a.2 _ _ oa (Int.le_refl _)] at h; simp at h; done)
                  · skip
                    intro h -- (kF (a, -1).fst.snd (a, -1).snd == 0) = false
                    dsimp only at h
                    (rw [kF_low a.2 _ _ oa (Int.le_refl _)] at h; simp at h; done)
            · skip
              intro h -- ((scaleF (a, k.tmod 1000).fst (a, k.tmod 1000).snd).snd == 0) = false
              dsimp only at h
              refine ⟨(a, -1), ⟨.refl _, .refl _, trivial⟩, rfl, (show a.2.length ≤ 1000000000 by omega), ?_⟩
              refine ⟨?_, ?_⟩
              · skip
                intro h -- (kF (a, -1).fst.snd (a, -1).snd == 0) = true
                dsimp only at h
                refine ⟨(a, 40), ⟨.refl _, .refl _, trivial⟩, rfl, (show a.2.length ≤ 1000000000 by omega), ?_⟩
                refine ⟨?_, ?_⟩
                · skip
                  intro h -- (kF (a, 40).fst.snd (a, 40).snd == 0) = true
                  dsimp only at h
                  refine ⟨(), trivial, rfl, trivial, ?_⟩
                  exact ⟨.refl _, rfl⟩
                · skip
                  intro h -- (kF (a, 40).fst.snd (a, 40).snd == 0) = false
                  dsimp only at h
                  (rw [kF_high a.2 _ _ oa (Int.le_refl _)] at h; simp at h; done)
              · skip
                intro h -- (kF (a, -1).fst.snd (a, -1).snd == 0) = false
                dsimp only at h
                (rw [kF_low a.2 _ _ oa (Int.le_refl _)] at h; simp at h; done)
    · skip
      intro h -- ((addF (a, b).fst (a, b).snd).snd == 0) = false
      dsimp only at h
      refine ⟨(a, k.tmod 1000), ⟨.refl _, .refl _, trivial⟩, rfl, trivial, ?_⟩
      refine ⟨?_, ?_⟩
      · kernel_rfl
      · skip
        refine ⟨?_, ?_⟩
        · skip
          intro h -- ((scaleF (a, k.tmod 1000).fst (a, k.tmod 1000).snd).snd == 0) = true
          dsimp only at h
          refine ⟨((scaleF a (k.tmod 1000)).1, v), ⟨.agg2 (.refl _) (.own ..), .refl _, trivial⟩, rfl, (show (scaleF a (k.tmod 1000)).1.2.length ≤ 1000000000 from by rw [(scale_ok (eq_of_beq h)).2.2.2]; have := scL_len (k.tmod 1000) a.2; dsimp only; omega), ?_⟩
          refine ⟨(a, v), ⟨.refl _, .refl _, trivial⟩, rfl, (show a.2.length ≤ 1000000000 by omega), ?_⟩
          refine ⟨?_, ?_⟩
          · skip
            intro h -- (kF ((scaleF a (k.tmod 1000)).fst, v).fst.snd ((scaleF a (k.tmod 1000)).fst, v).snd != IntKind.i64.wrap ((a, b, v, k).snd.snd.snd.tmod 1000 * kF (a, v).fst.snd 
            dsimp only at h
            (rw [(ks_scale v hk (eq_of_beq ‹((scaleF a (k.tmod 1000)).2 == 0) = true›)).1] at h; simp at h; done)
          · skip
            intro h -- (kF ((scaleF a (k.tmod 1000)).fst, v).fst.snd ((scaleF a (k.tmod 1000)).fst, v).snd != IntKind.i64.wrap ((a, b, v, k).snd.snd.snd.tmod 1000 * kF (a, v).fst.snd 
            dsimp only at h
            refine ⟨?_, ?_⟩
            · skip
              intro h -- ((scaleF (a, k.tmod 1000).fst (a, k.tmod 1000).snd).fst.fst != IntKind.i64.wrap ((a, b, v, k).snd.snd.snd.tmod 1000 * (a, b, v, k).fst.fst)) = true
              dsimp only at h
              (rw [(ks_scale v hk (eq_of_beq ‹((scaleF a (k.tmod 1000)).2 == 0) = true›)).2] at h; simp at h; done)
            · skip
              intro h -- ((scaleF (a, k.tmod 1000).fst (a, k.tmod 1000).snd).fst.fst != IntKind.i64.wrap ((a, b, v, k).snd.snd.snd.tmod 1000 * (a, b, v, k).fst.fst)) = false
              dsimp only at h
              refine ⟨(a, -1), ⟨.refl _, .refl _, trivial⟩, rfl, (show a.2.length ≤ 1000000000 by omega), ?_⟩
              refine ⟨?_, ?_⟩
              · skip
                intro h -- (kF (a, -1).fst.snd (a, -1).snd == 0) = true
                dsimp only at h
                refine ⟨(a, 40), ⟨.refl _, .refl _, trivial⟩, rfl, (show a.2.length ≤ 1000000000 by omega), ?_⟩
                refine ⟨?_, ?_⟩
                · skip
                  intro h -- (kF (a, 40).fst.snd (a, 40).snd == 0) = true
                  dsimp only at h
                  refine ⟨(), trivial, rfl, trivial, ?_⟩
                  exact ⟨.refl _, rfl⟩
                · skip
                  intro h -- (kF (a, 40).fst.snd (a, 40).snd == 0) = false
                  dsimp only at h
                  (rw [kF_high a.2 _ _ oa (Int.le_refl _)] at h; simp at h; done)
              · skip
                intro h -- (kF (a, -1).fst.snd (a, -1).snd == 0) = false
                dsimp only at h
                (rw [kF_low a.2 _ _ oa (Int.le_refl _)] at h; simp at h; done)
        · skip
          intro h -- ((scaleF (a, k.tmod 1000).fst (a, k.tmod 1000).snd).snd == 0) = false
          dsimp only at h
          refine ⟨(a, -1), ⟨.refl _, .refl _, trivial⟩, rfl, (show a.2.length ≤ 1000000000 by omega), ?_⟩
          refine ⟨?_, ?_⟩
          · skip
            intro h -- (kF (a, -1).fst.snd (a, -1).snd == 0) = true
            dsimp only at h
            refine ⟨(a, 40), ⟨.refl _, .refl _, trivial⟩, rfl, (show a.2.length ≤ 1000000000 by omega), ?_⟩
            refine ⟨?_, ?_⟩
            · skip
              intro h -- (kF (a, 40).fst.snd (a, 40).snd == 0) = true
              dsimp only at h
              refine ⟨(), trivial, rfl, trivial, ?_⟩
              exact ⟨.refl _, rfl⟩
            · skip
              intro h -- (kF (a, 40).fst.snd (a, 40).snd == 0) = false
              dsimp only at h
              (rw [kF_high a.2 _ _ oa (Int.le_refl _)] at h; simp at h; done)
          · skip
            intro h -- (kF (a, -1).fst.snd (a, -1).snd == 0) = false
            dsimp only at h
            (rw [kF_low a.2 _ _ oa (Int.le_refl _)] at h; simp at h; done)
end Go.Proofs.Ytddcbnillkefhaa.Ax
