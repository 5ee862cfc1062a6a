/- Layer term: TermRing. -/
import Derived.Test.YtddcbnillkefhaaPf
set_option linter.unusedVariables false
set_option linter.unusedSimpArgs false
namespace Go.Proofs.Ytddcbnillkefhaa.Ax
open Go Go.RowKit
theorem mono_eq : EqSound Try.prog 45 (flatC (Int × Int) monoC) :=
  eq_flat [.int .i64, .int .i64] (Int × Int) monoC Try.underlying45 (by kernel_rfl) (by kernel_rfl) (by kernel_rfl) (fun _ => rfl)
theorem mono_eq_dec (u v : Int × Int) : cellsEq (monoC u) (monoC v) = decide (u = v) := by
  obtain ⟨a, b⟩ := u
  obtain ⟨c, d⟩ := v
  simp only [monoC, cellsEq, cellEq, Bool.and_true, Prod.mk.injEq]
  by_cases h1 : a = c <;> by_cases h2 : b = d <;> simp [h1, h2]
theorem list_ext_getD {α : Type} (d : α) {l k : List α} (hl : l.length = k.length) (h : ∀ j, j < l.length → l.getD j d = k.getD j d) : l = k := by
  apply List.ext_getElem hl
  intro i h1 h2
  have := h i h1
  simpa [List.getD, h1, h2] using this
def keep_Term : Ctr := { A := (Int × List (Int × Int)) × (Int × List (Int × Int)), enc := fun x => [termS x.1, termS x.2], dom := fun x => x.1.2.length ≤ 4611686018427387904, res := fun x _ => B (decide (x.1 = x.2)) }
set_option maxRecDepth 100000 in
set_option maxHeartbeats 4000000 in
theorem keep_Term_ok : CtrSound Try.prog 19 keep_Term :=
  ctr_of_ax (env_ok tys_ok (eqs := [(45, flatC (Int × Int) monoC)]) ⟨mono_eq, trivial⟩ (cs := []) trivial) mixed _ Try.func19 (by kernel_rfl) rfl (fun _ _ => Nat.le_of_ble_eq_true rfl) fun (((c, k), (d, l)) : (Int × List (Int × Int)) × (Int × List (Int × Int))) id hd => by
    have hd : k.length ≤ 4611686018427387904 := hd
    have no : ¬ ((c, k) = (d, l)) → Sub .ff (B (decide ((c, k) = (d, l)))) := fun h => .bff (decide_eq_false h)
    refine ⟨fun h => ?_, fun h => ⟨fun h2 => ?_, fun h2 => ?_⟩⟩
    · exact ⟨no fun q => by have q1 : c = d := congrArg Prod.fst q; have h : (c != d) = true := h; rw [q1] at h; simp at h, rfl⟩
    · exact ⟨no fun q => by have q1 : k = l := congrArg Prod.snd q; have h2 : ((k.length : Int) != (l.length : Int)) = true := h2; rw [q1] at h2; simp at h2, rfl⟩
    have hc : c = d := by have h : (c != d) = false := h; simpa using h
    have hl : k.length = l.length := by have h2 : ((k.length : Int) != (l.length : Int)) = false := h2; simp at h2; omega
    refine ⟨Nat, fun i => [(2, .box 2 0), (3, .box 3 0), (5, I i)], fun _ => [(2, [I c, monos k]), (3, [I d, monos l])], fun i => i ≤ k.length ∧ ∀ j, j < i → k.getD j (0, 0) = l.getD j (0, 0), fun i => k.length - i,
      ⟨0, ⟨Nat.zero_le _, fun j hj => by omega⟩, ⟨⟨rfl, rfl⟩, .refl _, .refl _, .refl _, ⟨.refl _, .refl _, trivial⟩, ⟨.refl _, .refl _, trivial⟩, trivial⟩⟩, fun (i : Nat) hi => ?_⟩
    have hil := hi.1
    have hwj : IntKind.i64.wrap ((i : Int) + 1) = ((i + 1 : Nat) : Int) := by rw [wrap_eq _ (by omega) (by omega)]; omega
    refine ⟨fun h => ?_, fun h => ?_⟩
    · have hlt : i < k.length := of_decide_lt h
      refine ⟨by kernel_rfl, ?_⟩
      refine ⟨⟨by omega, by omega⟩, ⟨by omega, by omega⟩, ?_⟩
      refine ⟨k.getD i (0, 0), l.getD i (0, 0), ⟨.refl _, .refl _, trivial⟩, ⟨.refl _, .refl _, trivial⟩, fun h => ?_, fun h => ?_⟩
      · have h : (!cellsEq (monoC (k.getD i (0, 0))) (monoC (l.getD i (0, 0)))) = true := h
        rw [mono_eq_dec] at h
        exact ⟨no fun q => by have q1 : k = l := congrArg Prod.snd q; rw [q1] at h; simp at h, rfl⟩
      · have h : (!cellsEq (monoC (k.getD i (0, 0))) (monoC (l.getD i (0, 0)))) = false := h
        rw [mono_eq_dec] at h
        have he : k.getD i (0, 0) = l.getD i (0, 0) := by simpa using h
        exact ⟨i + 1, ⟨hlt, fun j hj => by rcases Nat.lt_succ_iff_lt_or_eq.1 hj with q | rfl; exact hi.2 j q; exact he⟩, by show k.length - (i + 1) < k.length - i; omega, ⟨rfl, rfl⟩, .refl _, .int hwj, .refl _, ⟨.refl _, .refl _, trivial⟩, ⟨.refl _, .refl _, trivial⟩, trivial⟩
    · have hge : i = k.length := of_decide_ge h hil
      exact ⟨.btt (decide_eq_true (by rw [hc, list_ext_getD (0, 0) hl fun j hj => hi.2 j (by omega)])), rfl⟩
def TermRing : Ctr := { A := (Int × List (Int × Int)) × (Int × List (Int × Int)) × Int, enc := fun x => [termS x.1, termS x.2.1, I x.2.2], dom := fun _ => True, res := fun _ _ => .tt }
set_option maxRecDepth 100000 in
set_option maxHeartbeats 8000000 in
theorem TermRing_ok : CtrSound Try.prog 6 TermRing :=
  ctr_of_ax (env_okB tys_ok (eqs := []) trivial (cs := [(14, Heavy13), (15, ref_Right), (10, term_Add), (9, term_Scale), (18, term_Put), (12, term_K), (19, keep_Term), (13, wakes13)]) ⟨Heavy13_ok, ref_Right_ok, term_Add_ok, term_Scale_ok, term_Put_ok, term_K_ok, keep_Term_ok, wakes13_ok, trivial⟩ (bs := []) trivial) mixed _ Try.func6 (by kernel_rfl) rfl (fun _ _ => Nat.le_of_ble_eq_true rfl) fun ((a, b, u) : (Int × List (Int × Int)) × (Int × List (Int × Int)) × Int) id hd => by
    refine ⟨a, ⟨.refl _, trivial⟩, rfl, trivial, fun h1 => ?_, fun h1 => ?_⟩
    · exact ⟨.refl _, rfl⟩
    refine ⟨b, ⟨.refl _, trivial⟩, rfl, trivial, fun h2 => ?_, fun h2 => ?_⟩
    · exact ⟨.refl _, rfl⟩
    refine ⟨a, ⟨.refl _, trivial⟩, rfl, trivial, fun h3 => ?_, fun h3 => ?_⟩
    · exact ⟨.refl _, rfl⟩
    refine ⟨b, ⟨.refl _, trivial⟩, rfl, trivial, fun h4 => ?_, fun h4 => ?_⟩
    · exact ⟨.refl _, rfl⟩
    have ra : right a := of_decide_eq_true (nnot h3)
    have rb : right b := of_decide_eq_true (nnot h4)
    have la : a.2.length ≤ 40 := ra.2.2.1
    have eN := scale_neg ra
    have eZ := scale_zero ra
    have eA := add_neg ra
    have eC := add_comm a b
    have lx : ∀ p q : Int × List (Int × Int), (addF p q).1.2.length ≤ 4611686018427387904 := fun p q => by
      have : (addF p q).1.2.length ≤ 40 := by
        unfold addF fitsF
        split
        · split
          · rename_i h; exact h.2.2.1
          · exact Nat.zero_le _
        · exact Nat.zero_le _
      omega
    refine ⟨(a, b), ⟨.refl _, .refl _, trivial⟩, rfl, trivial, ?_⟩
    refine ⟨(b, a), ⟨.refl _, .refl _, trivial⟩, rfl, trivial, ?_⟩
    refine ⟨(a, -1), ⟨.refl _, .refl _, trivial⟩, rfl, trivial, ?_⟩
    refine ⟨(a, (scaleF a (-1)).1), ⟨.refl _, .agg2 (.refl _) (.own ..), trivial⟩, rfl, trivial, ?_⟩
    refine ⟨(a, 0), ⟨.refl _, .refl _, trivial⟩, rfl, trivial, ?_⟩
    refine ⟨?_, ?_⟩
    · skip
      intro h -- ((addF (a, b).fst (a, b).snd).snd != (addF (b, a).fst (b, a).snd).snd) = true
      dsimp only at h
      (rw [eC] at h; simp at h; done)
    · skip
      intro h -- ((addF (a, b).fst (a, b).snd).snd != (addF (b, a).fst (b, a).snd).snd) = false
      dsimp only at h
      refine ⟨((addF a b).1, (addF b a).1), ⟨.refl _, .refl _, trivial⟩, rfl, lx _ _, ?_⟩
      refine ⟨?_, ?_⟩
      · skip
        intro h -- (!decide (((addF a b).fst, (addF b a).fst).fst = ((addF a b).fst, (addF b a).fst).snd)) = true
        dsimp only at h
        (rw [eC] at h; simp at h; done)
      · skip
        intro h -- (!decide (((addF a b).fst, (addF b a).fst).fst = ((addF a b).fst, (addF b a).fst).snd)) = false
        dsimp only at h
        refine ⟨?_, ?_⟩
        · skip
          intro h -- ((scaleF (a, -1).fst (a, -1).snd).snd != 0) = true
          dsimp only at h
          (rw [eN] at h; simp at h; done)
        · skip
          intro h -- ((scaleF (a, -1).fst (a, -1).snd).snd != 0) = false
          dsimp only at h
          refine ⟨?_, ?_⟩
          · skip
            intro h -- ((addF (a, (scaleF a (-1)).fst).fst (a, (scaleF a (-1)).fst).snd).snd != 0) = true
            dsimp only at h
            (rw [eA] at h; exact absurd h (by decide))
          · skip
            intro h -- ((addF (a, (scaleF a (-1)).fst).fst (a, (scaleF a (-1)).fst).snd).snd != 0) = false
            dsimp only at h
            refine ⟨((addF a (scaleF a (-1)).1).1, (0, [])), ⟨.refl _, .agg2 (.refl _) (.nil ..), trivial⟩, rfl, lx _ _, ?_⟩
            refine ⟨?_, ?_⟩
            · skip
              intro h -- (!decide (((addF a (scaleF a (-1)).fst).fst, 0, []).fst = ((addF a (scaleF a (-1)).fst).fst, 0, []).snd)) = true
              dsimp only at h
              (rw [eA] at h; exact absurd h (by decide))
            · skip
              intro h -- (!decide (((addF a (scaleF a (-1)).fst).fst, 0, []).fst = ((addF a (scaleF a (-1)).fst).fst, 0, []).snd)) = false
              dsimp only at h
              refine ⟨?_, ?_⟩
              · skip
                intro h -- ((scaleF (a, 0).fst (a, 0).snd).snd != 0) = true
                dsimp only at h
                (rw [eZ] at h; exact absurd h (by decide))
              · skip
                intro h -- ((scaleF (a, 0).fst (a, 0).snd).snd != 0) = false
                dsimp only at h
                refine ⟨((scaleF a 0).1, (0, [])), ⟨.agg2 (.refl _) (.own ..), .agg2 (.refl _) (.nil ..), trivial⟩, rfl, (show (scaleF a 0).1.2.length ≤ 4611686018427387904 from by rw [eZ]; exact Nat.zero_le _), ?_⟩
                refine ⟨?_, ?_⟩
                · skip
                  intro h -- (!decide (((scaleF a 0).fst, 0, []).fst = ((scaleF a 0).fst, 0, []).snd)) = true
                  dsimp only at h
                  (rw [eZ] at h; exact absurd h (by decide))
                · skip
                  intro h -- (!decide (((scaleF a 0).fst, 0, []).fst = ((scaleF a 0).fst, 0, []).snd)) = false
                  dsimp only at h
                  refine ⟨?_, ?_⟩
                  · skip
                    intro h -- decide ((a, b, u).snd.snd < 0) = true
                    dsimp only at h
                    refine ⟨(), trivial, rfl, trivial, ?_⟩
                    exact ⟨.refl _, rfl⟩
                  · skip
                    intro h -- decide ((a, b, u).snd.snd < 0) = false
                    dsimp only at h
                    refine ⟨?_, ?_⟩
                    · skip
                      intro h -- decide ((a, b, u).snd.snd ≥ 40) = true
                      dsimp only at h
                      refine ⟨(), trivial, rfl, trivial, ?_⟩
                      exact ⟨.refl _, rfl⟩
                    · skip
                      intro h -- decide ((a, b, u).snd.snd ≥ 40) = false
                      dsimp only at h
                      refine ⟨(a, u), ⟨.refl _, .refl _, trivial⟩, rfl, (show a.2.length ≤ 1000000000 by omega), ?_⟩
                      refine ⟨?_, ?_⟩
                      · skip
                        intro h -- (kF (a, u).fst.snd (a, u).snd != 0) = true
                        dsimp only at h
                        refine ⟨(), trivial, rfl, trivial, ?_⟩
                        exact ⟨.refl _, rfl⟩
                      · skip
                        intro h -- (kF (a, u).fst.snd (a, u).snd != 0) = false
                        dsimp only at h
                        refine ⟨(a, u, b), ⟨.refl _, .refl _, .refl _, trivial⟩, rfl, trivial, ?_⟩
                        refine ⟨?_, ?_⟩
                        · skip
                          intro h -- ((putF (a, u, b).fst (a, u, b).snd.fst (a, u, b).snd.snd).snd == 0) = true
                          dsimp only at h
                          refine ⟨((putF a u b).1, a), ⟨.refl _, .refl _, trivial⟩, rfl, (show (putF a u b).1.2.length ≤ 4611686018427387904 from by rw [put_none ra rb (eqz ‹(kF a.2 u != 0) = false›)]; exact Nat.le_trans la (Nat.le_of_ble_eq_true rfl)), ?_⟩
                          refine ⟨?_, ?_⟩
                          · skip
                            intro h -- decide (((putF a u b).fst, a).fst = ((putF a u b).fst, a).snd) = true
                            dsimp only at h
                            refine ⟨(), trivial, rfl, trivial, ?_⟩
                            exact ⟨.refl _, rfl⟩
                          · skip
                            intro h -- decide (((putF a u b).fst, a).fst = ((putF a u b).fst, a).snd) = false
                            dsimp only at h
                            (rw [put_none ra rb (eqz ‹(kF a.2 u != 0) = false›)] at h; simp at h; done)
                        · skip
                          intro h -- ((putF (a, u, b).fst (a, u, b).snd.fst (a, u, b).snd.snd).snd == 0) = false
                          dsimp only at h
                          (rw [put_none ra rb (eqz ‹(kF a.2 u != 0) = false›)] at h; exact absurd h (show ¬ ((0 : Int) == 0) = false by decide))
end Go.Proofs.Ytddcbnillkefhaa.Ax
