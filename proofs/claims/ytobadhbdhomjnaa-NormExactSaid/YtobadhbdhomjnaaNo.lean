/- Layer norm by the logic: twins, whether all terms are right; NormOrder. -/
import Derived.Test.YtobadhbdhomjnaaNy
import Derived.Test.YtobadhbdhomjnaaSh
set_option linter.unusedVariables false
set_option linter.unusedSimpArgs false
namespace Go.Proofs.Ytobadhbdhomjnaa.Ax
open Go Go.RowKit
def keep_TwinTerm : Ctr := { A := Int × List (Int × Int), enc := fun t => [termS t], dom := fun t => t.2.length ≤ 1000000, res := fun t id => termO t id }
theorem keep_TwinTerm_ok : CtrSound Try.prog 34 keep_TwinTerm :=
  ctr_of_ax (env_ok tys_ok (eqs := []) trivial (cs := []) trivial) mixed _ Try.func34 (by kernel_rfl) rfl (fun _ _ => Nat.le_of_ble_eq_true rfl) fun ((c, l) : Int × List (Int × Int)) id hd => by
    have hd : l.length ≤ 1000000 := hd
    refine ⟨by kernel_rfl, ?_⟩
    refine ⟨Int × Int, monoC, (0, 0), [], l, 9, ⟨.nilO .., .refl _⟩, fun _ => rfl, (by simp only [List.length_nil]; omega), ?_⟩
    exact ⟨.agg2 (.refl _) (Sub.ownEq rfl), rfl⟩
def keep_TwinCons : Ctr := { A := List CC, enc := fun l => [conses l], dom := fun l => l.length ≤ 1000000 ∧ ∀ c ∈ l, c.1.2.length ≤ 1000000, res := fun l id => consesO l id }
set_option maxRecDepth 100000 in
set_option maxHeartbeats 4000000 in
theorem keep_TwinCons_ok : CtrSound Try.prog 18 keep_TwinCons :=
  ctr_of_ax (env_ok tys_ok (eqs := []) trivial (cs := [(34, keep_TwinTerm)]) ⟨keep_TwinTerm_ok, trivial⟩) mixed _ Try.func18 (by kernel_rfl) rfl (fun _ _ => Nat.le_of_ble_eq_true rfl) fun (l : List CC) id hd => by
    have hm : ∀ c ∈ l, c.1.2.length ≤ 1000000 := hd.2
    have hd : l.length ≤ 1000000 := hd.1
    refine ⟨Nat × List CC, fun s => [(0, conses l), (3, consesO s.2 25), (4, I s.1)], fun _ => [], fun s => s.1 ≤ l.length ∧ s.2 ++ l.drop s.1 = l ∧ s.2.length ≤ s.1, fun s => l.length - s.1,
      ⟨(0, []), ⟨Nat.zero_le _, rfl, Nat.le_refl _⟩, ⟨⟨rfl, rfl⟩, .refl _, .nilO .., .refl _, trivial⟩⟩, fun ((i, o) : Nat × List CC) hi => ?_⟩
    have hil : i ≤ l.length := hi.1
    have hk : o ++ l.drop i = l := hi.2.1
    have hol : o.length ≤ i := hi.2.2
    have hwj : IntKind.i64.wrap ((i : Int) + 1) = ((i + 1 : Nat) : Int) := by rw [wrap_eq _ (by omega) (by omega)]; omega
    refine ⟨fun h => ?_, fun h => ?_⟩
    · have hlt : i < l.length := of_decide_lt h
      rw [drop_at ((0, []), false) l i hlt] at hk
      refine ⟨by kernel_rfl, ?_⟩
      refine ⟨⟨by omega, by dsimp only; omega⟩, ?_⟩
      refine ⟨(l.getD i ((0, []), false)).1, ⟨.agg2 (.refl _) (.refl _), trivial⟩, rfl, hm _ (getD_mem l i _ hlt), ?_⟩
      refine ⟨⟨by omega, by dsimp only; omega⟩, ?_⟩
      refine ⟨CC, consC, ((0, []), false), [l.getD i ((0, []), false)], ⟨rfl, fun _ => rfl⟩, ⟨.refl _, .own .., .refl _, trivial⟩, rfl, ?_⟩
      refine ⟨CC, consC, ((0, []), false), o, [l.getD i ((0, []), false)], 25, ⟨.refl _, .own ..⟩, fun _ => rfl, (by simp only [List.length_cons, List.length_nil]; omega), ?_⟩
      exact ⟨(i + 1, o ++ [l.getD i ((0, []), false)]), ⟨hlt, by simpa using hk, by simp only [List.length_append, List.length_cons, List.length_nil]; omega⟩, by show l.length - (i + 1) < l.length - i; omega, ⟨rfl, rfl⟩, .refl _, .refl _, .int hwj, trivial⟩
    · have hge : i = l.length := of_decide_ge h hil
      subst hge
      rw [List.drop_length, List.append_nil] at hk
      exact ⟨Sub.ownEq hk, rfl⟩
def ref_Terms : Ctr := { A := List CC, enc := fun l => [conses l], dom := fun l => l.length ≤ 4611686018427387904, res := fun l _ => B (l.all fun c => decide (right c.1)) }
theorem ref_Terms_ok : CtrSound Try.prog 16 ref_Terms :=
  ctr_of_ax (env_ok tys_ok (eqs := []) trivial (cs := [(10, ref_Right)]) ⟨ref_Right_ok, trivial⟩) mixed _ Try.func16 (by kernel_rfl) rfl (fun _ _ => Nat.le_of_ble_eq_true rfl) fun (l : List CC) id hd => by
    have hd : l.length ≤ 4611686018427387904 := hd
    refine ⟨Nat, fun i => [(0, conses l), (3, I i)], fun _ => [], fun i => i ≤ l.length ∧ (l.drop i).all (fun c => decide (right c.1)) = l.all (fun c => decide (right c.1)), fun i => l.length - i, ⟨0, ⟨Nat.zero_le _, rfl⟩, ⟨⟨rfl, rfl⟩, .refl _, .refl _, trivial⟩⟩, fun (i : Nat) hi => ?_⟩
    have hil : i ≤ l.length := hi.1
    have hk : (l.drop i).all (fun c => decide (right c.1)) = l.all (fun c => decide (right c.1)) := hi.2
    have hwj : IntKind.i64.wrap ((i : Int) + 1) = ((i + 1 : Nat) : Int) := by rw [wrap_eq _ (by omega) (by omega)]; omega
    refine ⟨fun h => ?_, fun h => ?_⟩
    · have hlt : i < l.length := of_decide_lt h
      rw [drop_at ((0, []), false) l i hlt, List.all_cons] at hk
      refine ⟨⟨by omega, by omega⟩, ?_⟩
      refine ⟨(l.getD i ((0, []), false)).1, ⟨.agg2 (.refl _) (.refl _), trivial⟩, rfl, trivial, fun h2 => ?_, fun h2 => ?_⟩
      · have h2 : decide (right (l.getD i ((0, []), false)).1) = false := ynot h2
        rw [h2, Bool.false_and] at hk
        exact ⟨.bff hk.symm, rfl⟩
      · have h2 : decide (right (l.getD i ((0, []), false)).1) = true := nnot h2
        rw [h2, Bool.true_and] at hk
        exact ⟨i + 1, ⟨hlt, hk⟩, by show l.length - (i + 1) < l.length - i; omega, ⟨rfl, rfl⟩, .refl _, .int hwj, trivial⟩
    · have hge : i = l.length := of_decide_ge h hil
      subst hge
      rw [List.drop_length, List.all_nil] at hk
      exact ⟨.btt hk.symm, rfl⟩
/-! plain laws -/
theorem dd_app : ∀ (l k out : List CC), dd out (l ++ k) = dd (dd out l) k
  | [], k, out => rfl
  | c :: r, k, out => by rw [List.cons_append, dd, dd, dd_app r k]
theorem dd_absorb : ∀ (l out : List CC), (∀ c ∈ l, (oneF c).2.1 = 0 → (oneF c).1 ∈ out) → dd out l = out
  | [], out, _ => rfl
  | c :: r, out, h => by
    rw [dd, if_neg, dd_absorb r out fun x hx => h x (List.mem_cons_of_mem _ hx)]
    intro q
    simp only [Bool.and_eq_true, beq_iff_eq, Bool.not_eq_true'] at q
    rw [(any_same out _).2 (h c List.mem_cons_self q.1)] at q
    cases q.2
theorem order_facts {l : List CC} (h : ∀ c ∈ l, right c.1) :
    (allF l).2.2 = 0 ∧ allF (l ++ l) = allF l ∧ (allF l.reverse).2.2 = 0 ∧ (allF l.reverse).2.1 = (allF l).2.1 ∧ (allF l.reverse).1.length = (allF l).1.length ∧ (allF l).1.length ≤ l.length ∧ ∀ x ∈ (allF l).1, x.1.2.length ≤ 40 := by
  have key : ∀ k : List CC, (∀ c ∈ k, right c.1) → allF k = fin3 (k.any fun c => (oneF c).2.1 == 1) (dd [] k) := fun k hk => by
    unfold allF; rw [aL_dd k false [] fun c hc => one_right (hk c hc)]; rfl
  have e0 := key l h
  have z : ∀ (b : Bool) (o : List CC), (fin3 b o).2.2 = 0 := fun b o => by unfold fin3; split; rfl; split <;> rfl
  have hlen := dd_len l []
  refine ⟨by rw [e0]; exact z _ _, ?_, by rw [key l.reverse fun c hc => h c (List.mem_reverse.1 hc)]; exact z _ _, ?_⟩
  · rw [key (l ++ l) fun c hc => (List.mem_append.1 hc).elim (h c) (h c), e0, List.any_append, Bool.or_self, dd_app]
    rw [dd_absorb l (dd [] l) fun c hc hq => (dd_mem _ l []).2 (.inr ⟨c, hc, hq, rfl⟩)]
  have er := key l.reverse fun c hc => h c (List.mem_reverse.1 hc)
  have ha : (l.reverse.any fun c => (oneF c).2.1 == 1) = l.any fun c => (oneF c).2.1 == 1 := by rw [List.any_reverse]
  have hp : (dd [] l.reverse).Perm (dd [] l) := by
    rw [List.perm_ext_iff_of_nodup (dd_nodup _ [] List.nodup_nil) (dd_nodup _ [] List.nodup_nil)]
    intro x
    rw [dd_mem, dd_mem]
    simp
  have hl2 := hp.length_eq
  have h40 : ∀ x ∈ dd [] l, x.1.2.length ≤ 40 := fun x hx => by
    rcases (dd_mem x l []).1 hx with q | ⟨c, _, _, rfl⟩
    · cases q
    · exact oneF_len c
  rw [er, e0, ha]
  cases (l.any fun c => (oneF c).2.1 == 1) with
  | true => exact ⟨rfl, rfl, Nat.zero_le _, fun x hx => by cases hx⟩
  | false =>
    by_cases hn : dd [] l = []
    · have hn2 : dd [] l.reverse = [] := List.eq_nil_of_length_eq_zero (by rw [hl2, hn]; rfl)
      rw [hn, hn2]
      exact ⟨rfl, rfl, Nat.zero_le _, fun x hx => by cases hx⟩
    · have hn2 : dd [] l.reverse ≠ [] := fun q => hn (List.eq_nil_of_length_eq_zero (by rw [← hl2, q]; rfl))
      have f1 : fin3 false (dd [] l) = (dd [] l, 0, 0) := by simp [fin3, hn]
      have f2 : fin3 false (dd [] l.reverse) = (dd [] l.reverse, 0, 0) := by simp [fin3, hn2]
      rw [f1, f2]
      exact ⟨rfl, hl2, by simpa using hlen, h40⟩
theorem take_rev (d : CC) (l : List CC) (p : Nat) (h : p + 1 ≤ l.length) : (l.take (p + 1)).reverse = l.getD p d :: (l.take p).reverse := by
  rw [List.take_succ_eq_append_getElem (by omega), List.reverse_append]
  simp [List.getD, show p < l.length by omega]
def NormOrder : Ctr := { A := List CC, enc := fun l => [conses l], dom := fun l => sh39.ok l, res := fun _ _ => .tt }
set_option maxRecDepth 100000 in
set_option maxHeartbeats 4000000 in
theorem NormOrder_ok : CtrSound Try.prog 5 NormOrder :=
  ctr_of_ax (env_ok tys_ok (eqs := []) trivial (cs := [(15, Heavy14), (16, ref_Terms), (17, norm_All), (18, keep_TwinCons), (19, keep_Cons), (12, wakes14)]) ⟨Heavy14_ok, ref_Terms_ok, norm_All_ok, keep_TwinCons_ok, keep_Cons_ok, wakes14_ok, trivial⟩) mixed _ Try.func5 (by kernel_rfl) rfl (fun _ _ => Nat.le_of_ble_eq_true rfl) fun (l : List CC) id hd => by
    have hl0 : l.length ≤ 4611686018427387904 := by
      have : l.length * 40 ≤ 140737488351232 := hd.1
      omega
    clear hd
    refine ⟨l, ⟨.refl _, trivial⟩, rfl, hl0, fun h1 => ?_, fun h1 => ?_⟩
    · exact ⟨.refl _, rfl⟩
    have hl : l.length ≤ 60 := by
      have h1 : (decide (l.length > 60) || l.any fun c => decide (c.1.2.length > 60)) = false := h1
      rw [Bool.or_eq_false_iff] at h1
      have := of_decide_eq_false h1.1
      omega
    refine ⟨l, ⟨.refl _, trivial⟩, rfl, hl0, fun h2 => ?_, fun h2 => ?_⟩
    · exact ⟨.refl _, rfl⟩
    have hr : ∀ c ∈ l, right c.1 := fun c hc => by
      have h2 : (l.all fun c => decide (right c.1)) = true := nnot h2
      exact of_decide_eq_true (List.all_eq_true.1 h2 c hc)
    have hm : ∀ c ∈ l, c.1.2.length ≤ 1000000 := fun c hc => by have := (hr c hc).2.2.1; omega
    have F := order_facts hr
    have g1 := F.1
    have g2 := F.2.1
    have g3 := F.2.2.1
    have g4 := F.2.2.2.1
    have g5 := F.2.2.2.2.1
    have g6 := F.2.2.2.2.2.1
    have g7 := F.2.2.2.2.2.2
    clear F
    refine ⟨l, ⟨.refl _, trivial⟩, rfl, (show l.length ≤ 1000000 by omega), ?_⟩
    refine ⟨l, ⟨.refl _, trivial⟩, rfl, (show l.length ≤ 1000000 ∧ _ from ⟨by omega, hm⟩), ?_⟩
    refine ⟨CC, consC, ((0, []), false), l, l, 29, ⟨.refl _, .refl _⟩, fun _ => rfl, (show (l.length + l.length) * 40 ≤ 140737488355328 by omega), ?_⟩
    refine ⟨l ++ l, ⟨.own .., trivial⟩, rfl, (show (l ++ l).length ≤ 1000000 by rw [List.length_append]; omega), ?_⟩
    refine ⟨Nat × List CC, fun s => [(0, conses l), (3, conses (allF l).1), (4, I (allF l).2.1), (5, I (allF l).2.2), (6, conses (allF (l ++ l)).1), (7, I (allF (l ++ l)).2.1), (8, I (allF (l ++ l)).2.2), (9, consesO s.2 49), (10, I ((s.1 : Int) - 1))], fun _ => [],
      fun s => s.1 ≤ l.length ∧ s.2 ++ (l.take s.1).reverse = l.reverse ∧ s.2.length ≤ 60 - s.1, fun s => s.1, ⟨(l.length, []), ⟨Nat.le_refl _, by rw [List.take_length]; rfl, Nat.zero_le _⟩, ⟨⟨rfl, rfl⟩, ?_⟩⟩, fun ((p, o) : Nat × List CC) hi => ?_⟩
    · refine ⟨?_, ?_⟩
      · exact .refl _
      · skip
        refine ⟨?_, ?_⟩
        · exact .own ..
        · skip
          refine ⟨?_, ?_⟩
          · exact .refl _
          · skip
            refine ⟨?_, ?_⟩
            · exact .refl _
            · skip
              refine ⟨?_, ?_⟩
              · exact .nilO ..
              · skip
                refine ⟨?_, ?_⟩
                · exact .refl _
                · skip
                  refine ⟨?_, ?_⟩
                  · exact .refl _
                  · skip
                    refine ⟨?_, ?_⟩
                    · exact .own ..
                    · skip
                      refine ⟨?_, ?_⟩
                      · exact .int (wrap_eq _ (by omega) (by omega))
                      · skip
                        exact trivial
    have hil : p ≤ l.length := hi.1
    have hk : o ++ (l.take p).reverse = l.reverse := hi.2.1
    have hol : o.length ≤ 60 - p := hi.2.2
    refine ⟨fun h => ?_, fun h => ?_⟩
    · have hp : 1 ≤ p := by have := of_decide_eq_true h; dsimp only at this; omega
      have ht : ((p : Int) - 1).toNat = p - 1 := by omega
      have hwj : IntKind.i64.wrap ((p : Int) - 1 - 1) = ((p - 1 : Nat) : Int) - 1 := by rw [wrap_eq _ (by omega) (by omega)]; omega
      have hk2 : o ++ l.getD (p - 1) ((0, []), false) :: (l.take (p - 1)).reverse = l.reverse := by
        rw [← take_rev ((0, []), false) l (p - 1) (by omega), show p - 1 + 1 = p by omega]; exact hk
      refine ⟨⟨by dsimp only; omega, by dsimp only; omega⟩, ?_⟩
      refine ⟨CC, consC, ((0, []), false), [l.getD ((p : Int) - 1).toNat ((0, []), false)], ⟨rfl, fun _ => rfl⟩, ⟨.refl _, .refl _, .refl _, trivial⟩, rfl, ?_⟩
      refine ⟨CC, consC, ((0, []), false), o, [l.getD ((p : Int) - 1).toNat ((0, []), false)], 49, ⟨.refl _, .own ..⟩, fun _ => rfl, (by simp only [List.length_cons, List.length_nil]; omega), ?_⟩
      exact ⟨(p - 1, o ++ [l.getD ((p : Int) - 1).toNat ((0, []), false)]), ⟨by dsimp only; omega, by rw [ht]; simpa using hk2, by simp only [List.length_append, List.length_cons, List.length_nil]; omega⟩, by show p - 1 < p; omega, ⟨rfl, rfl⟩, .refl _, .refl _, .refl _, .refl _, .refl _, .refl _, .refl _, .refl _, .int hwj, trivial⟩
    · have hz : p = 0 := by have := of_decide_eq_false h; dsimp only at this; omega
      subst hz
      rw [List.take_zero, List.reverse_nil, List.append_nil] at hk
      have hor : o.length = l.length := by rw [hk, List.length_reverse]
      refine ⟨o, ⟨.own .., trivial⟩, rfl, (show o.length ≤ 1000000 by omega), ?_⟩
      refine ⟨?_, ?_⟩
      · skip
        intro h -- ((allF l).snd.snd == 0) = true
        refine ⟨?_, ?_⟩
        · skip
          intro h -- ((allF (l ++ l)).snd.snd == 0) = true
          refine ⟨?_, ?_⟩
          · skip
            intro h -- ((allF o).snd.snd == 0) = true
            refine ⟨?_, ?_⟩
            · skip
              intro h -- ((allF l).snd.fst == (allF (l ++ l)).snd.fst) = true
              refine ⟨?_, ?_⟩
              · skip
                intro h -- ((allF l).snd.fst == (allF o).snd.fst) = true
                refine ⟨((allF l).1, (allF (l ++ l)).1), ⟨.refl _, .refl _, trivial⟩, rfl, (show (allF l).1.length ≤ 4611686018427387904 ∧ _ from ⟨by omega, fun y hy => by have := g7 y hy; omega⟩), ?_⟩
                refine ⟨?_, ?_⟩
                · skip
                  intro h -- decide (((allF l).fst, (allF (l ++ l)).fst).fst = ((allF l).fst, (allF (l ++ l)).fst).snd) = true
                  dsimp only at h
                  refine ⟨?_, ?_⟩
                  · skip
                    intro h -- (↑(allF l).fst.length == ↑(allF o).fst.length) = true
                    refine ⟨(), trivial, rfl, trivial, ?_⟩
                    exact ⟨.refl _, rfl⟩
                  · skip
                    intro h -- (↑(allF l).fst.length == ↑(allF o).fst.length) = false
                    (rw [hk, g5] at h; simp at h; done)
                · skip
                  intro h -- decide (((allF l).fst, (allF (l ++ l)).fst).fst = ((allF l).fst, (allF (l ++ l)).fst).snd) = false
                  dsimp only at h
                  (rw [g2] at h; simp at h; done)
              · skip
                intro h -- ((allF l).snd.fst == (allF o).snd.fst) = false
                (rw [hk, g4] at h; simp at h; done)
            · skip
              intro h -- ((allF l).snd.fst == (allF (l ++ l)).snd.fst) = false
              (rw [g2] at h; simp at h; done)
          · skip
            intro h -- ((allF o).snd.snd == 0) = false
            (rw [hk, g3] at h; simp at h; done)
        · skip
          intro h -- ((allF (l ++ l)).snd.snd == 0) = false
          (rw [g2, g1] at h; simp at h; done)
      · skip
        intro h -- ((allF l).snd.snd == 0) = false
        (rw [g1] at h; simp at h; done)
end Go.Proofs.Ytobadhbdhomjnaa.Ax
