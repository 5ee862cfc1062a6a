/- Layer fork by the logic: the ways by a place, by a quotient. -/
import Derived.Test.YtndndemnjmdanaaKb
set_option linter.unusedVariables false
set_option linter.unusedSimpArgs false
namespace Go.Proofs.Ytndndemnjmdanaa.Ax
open Go Go.RowKit
theorem eqz {x : Int} (h : (x != 0) = false) : x = 0 := by simpa using h
def waysO (l : List (List ((Int × List (Int × Int)) × Bool))) (id : Nat) : SV := .own (List ((Int × List (Int × Int)) × Bool)) 1 wayC [] l id
def idxL (t : Int × List (Int × Int)) : Nat → List (List ((Int × List (Int × Int)) × Bool))
  | 0 => [[mcF t (-1)]]
  | k + 1 => idxL t k ++ [[icF t k]]
def idxE (t : Int × List (Int × Int)) : Nat → Int
  | 0 => mcK t (-1) 0
  | k + 1 => mcK t k (idxE t k)
def indexF (t : Int × List (Int × Int)) (n : Int) := if right t ∧ 0 ≤ n ∧ n ≤ 16 then toldF (lcK t n (idxE t n.toNat)) (idxL t n.toNat ++ [[lcF t n]]) else ([], 1)
theorem idxL_len (t : Int × List (Int × Int)) : ∀ k, (idxL t k).length = k + 1
  | 0 => rfl
  | k + 1 => by rw [idxL, List.length_append, idxL_len t k]; rfl
def fk_Index : Ctr := { A := (Int × List (Int × Int)) × Int, enc := fun x => [termS x.1, I x.2], dom := fun _ => True, res := fun x _ => .tup [waysR (indexF x.1 x.2).1, I (indexF x.1 x.2).2] }
set_option maxRecDepth 100000 in
set_option maxHeartbeats 4000000 in
theorem fk_Index_ok : CtrSound Try.prog 12 fk_Index :=
  ctr_of_ax (env_okB tys_ok (eqs := []) trivial (cs := [(26, term_Check), (28, fk_one)]) ⟨term_Check_ok, fk_one_ok, trivial⟩ (bs := [(29, mk_most), (31, mk_least), (30, mk_is), (27, mk_told)]) ⟨mk_most_ok, mk_least_ok, mk_is_ok, mk_told_ok, trivial⟩) mixed _ Try.func12 (by kernel_rfl) rfl (fun _ _ => Nat.le_of_ble_eq_true rfl) fun ((t, n) : (Int × List (Int × Int)) × Int) id _ => by
    have bad : ¬ (right t ∧ 0 ≤ n ∧ n ≤ 16) → indexF t n = ([], 1) := fun h => if_neg h
    refine ⟨t, ⟨.refl _, trivial⟩, rfl, trivial, fun h1 => ?_, fun h1 => ⟨fun h2 => ?_, fun h2 => ⟨fun h3 => ?_, fun h3 => ?_⟩⟩⟩
    · have e := bad (fun c => ckY h1 c.1)
      exact ⟨.tup2 (by rw [e]; exact .nil ..) (.int (by rw [e])), rfl⟩
    · have e := bad (fun c => by have := of_decide_eq_true h2; omega)
      exact ⟨.tup2 (by rw [e]; exact .nil ..) (.int (by rw [e])), rfl⟩
    · have e := bad (fun c => by have := of_decide_eq_true h3; omega)
      exact ⟨.tup2 (by rw [e]; exact .nil ..) (.int (by rw [e])), rfl⟩
    have hr := ckN h1
    have hn0 : 0 ≤ n := by have := of_decide_eq_false h2; omega
    have hn1 : n ≤ 16 := by have := of_decide_eq_false h3; omega
    have e : indexF t n = toldF (lcK t n (idxE t n.toNat)) (idxL t n.toNat ++ [[lcF t n]]) := if_pos ⟨hr, hn0, hn1⟩
    refine ⟨by kernel_rfl, ?_⟩
    refine ⟨(t, -1, 0), ⟨.refl _, .refl _, .refl _, trivial⟩, ⟨⟨rfl, .refl _, trivial⟩, trivial⟩, trivial, ?_⟩
    refine ⟨mcF t (-1), ⟨.refl _, trivial⟩, rfl, trivial, ?_⟩
    refine ⟨List ((Int × List (Int × Int)) × Bool), wayC, [], [[mcF t (-1)]], ⟨rfl, fun _ => rfl⟩, ⟨.own .., trivial⟩, rfl, ?_⟩
    refine ⟨Bool × Nat, fun s => [(1, I n), (2, .box 2 0), (6, .box 21 0), (7, waysO (idxL t s.2) (cond s.1 38 26)), (27, I n), (28, I s.2)], fun s => [(2, termC t), (21, [I (idxE t s.2)])],
      fun s => s.2 ≤ n.toNat, fun s => n.toNat - s.2, ⟨(false, 0), Nat.zero_le _, ⟨⟨rfl, rfl⟩, ?_⟩⟩, fun ((b, i) : Bool × Nat) hi => ?_⟩
    · refine ⟨?_, ?_⟩
      · exact .refl _
      · skip
        refine ⟨?_, ?_⟩
        · exact .refl _
        · skip
          refine ⟨?_, ?_⟩
          · exact .refl _
          · skip
            refine ⟨?_, ?_⟩
            · exact .refl _
            · skip
              refine ⟨?_, ?_⟩
              · exact .refl _
              · skip
                refine ⟨?_, ?_⟩
                · exact .refl _
                · skip
                  refine ⟨?_, ?_⟩
                  · exact ⟨.refl _, trivial⟩
                  · skip
                    refine ⟨?_, ?_⟩
                    · exact ⟨.refl _, .refl _, trivial⟩
                    · skip
                      exact trivial
    have hi : i ≤ n.toNat := hi
    have hl := idxL_len t i
    have hwj : IntKind.i64.wrap ((i : Int) + 1) = ((i + 1 : Nat) : Int) := by rw [wrap_eq _ (by omega) (by omega)]; omega
    have hin : ¬ (i : Int) < n → i = n.toNat := fun h => by omega
    cases b
    · refine ⟨fun h => ?_, fun h => ?_⟩
      · have hlt : i < n.toNat := by have := of_decide_eq_true h; omega
        refine ⟨?_, ?_⟩
        · kernel_rfl
        · skip
          refine ⟨(t, (i : Int), idxE t i), ⟨.refl _, .refl _, .refl _, trivial⟩, ⟨⟨rfl, .refl _, trivial⟩, trivial⟩, trivial, ?_⟩
          refine ⟨icF t i, ⟨.refl _, trivial⟩, rfl, trivial, ?_⟩
          refine ⟨List ((Int × List (Int × Int)) × Bool), wayC, [], [[icF t i]], ⟨rfl, fun _ => rfl⟩, ⟨.own .., trivial⟩, rfl, ?_⟩
          refine ⟨List ((Int × List (Int × Int)) × Bool), wayC, [], idxL t i, [[icF t i]], 26, ⟨.refl _, .own ..⟩, fun _ => rfl, (by rw [hl]; simp only [List.length_cons, List.length_nil]; omega), ?_⟩
          exact ⟨(true, i + 1), hlt, by show n.toNat - (i + 1) < n.toNat - i; omega, ⟨rfl, rfl⟩, .refl _, .refl _, .refl _, .refl _, .int hwj, .refl _, ⟨.refl _, trivial⟩, ⟨.refl _, .refl _, trivial⟩, trivial⟩
      · have hge := hin (of_decide_eq_false h)
        refine ⟨?_, ?_⟩
        · kernel_rfl
        · skip
          refine ⟨(t, n, idxE t i), ⟨.refl _, .refl _, .refl _, trivial⟩, ⟨⟨rfl, .refl _, trivial⟩, trivial⟩, trivial, ?_⟩
          refine ⟨lcF t n, ⟨.refl _, trivial⟩, rfl, trivial, ?_⟩
          refine ⟨List ((Int × List (Int × Int)) × Bool), wayC, [], [[lcF t n]], ⟨rfl, fun _ => rfl⟩, ⟨.own .., trivial⟩, rfl, ?_⟩
          refine ⟨List ((Int × List (Int × Int)) × Bool), wayC, [], idxL t i, [[lcF t n]], 26, ⟨.refl _, .own ..⟩, fun _ => rfl, (by rw [hl]; simp only [List.length_cons, List.length_nil]; omega), ?_⟩
          refine ⟨?_, ?_⟩
          · kernel_rfl
          · skip
            refine ⟨(idxL t i ++ [[lcF t n]], lcK t n (idxE t i)), ⟨.refl _, .refl _, trivial⟩, ⟨⟨rfl, .refl _, trivial⟩, trivial⟩, trivial, ?_⟩
            exact ⟨.tup2 (.rowEq (by rw [e, ← hge])) (.int (by rw [e, ← hge])), rfl⟩
    · refine ⟨fun h => ?_, fun h => ?_⟩
      · have hlt : i < n.toNat := by have := of_decide_eq_true h; omega
        refine ⟨?_, ?_⟩
        · kernel_rfl
        · skip
          refine ⟨(t, (i : Int), idxE t i), ⟨.refl _, .refl _, .refl _, trivial⟩, ⟨⟨rfl, .refl _, trivial⟩, trivial⟩, trivial, ?_⟩
          refine ⟨icF t i, ⟨.refl _, trivial⟩, rfl, trivial, ?_⟩
          refine ⟨List ((Int × List (Int × Int)) × Bool), wayC, [], [[icF t i]], ⟨rfl, fun _ => rfl⟩, ⟨.own .., trivial⟩, rfl, ?_⟩
          refine ⟨List ((Int × List (Int × Int)) × Bool), wayC, [], idxL t i, [[icF t i]], 38, ⟨.refl _, .own ..⟩, fun _ => rfl, (by rw [hl]; simp only [List.length_cons, List.length_nil]; omega), ?_⟩
          exact ⟨(true, i + 1), hlt, by show n.toNat - (i + 1) < n.toNat - i; omega, ⟨rfl, rfl⟩, .refl _, .refl _, .refl _, .refl _, .int hwj, .refl _, ⟨.refl _, trivial⟩, ⟨.refl _, .refl _, trivial⟩, trivial⟩
      · have hge := hin (of_decide_eq_false h)
        refine ⟨?_, ?_⟩
        · kernel_rfl
        · skip
          refine ⟨(t, n, idxE t i), ⟨.refl _, .refl _, .refl _, trivial⟩, ⟨⟨rfl, .refl _, trivial⟩, trivial⟩, trivial, ?_⟩
          refine ⟨lcF t n, ⟨.refl _, trivial⟩, rfl, trivial, ?_⟩
          refine ⟨List ((Int × List (Int × Int)) × Bool), wayC, [], [[lcF t n]], ⟨rfl, fun _ => rfl⟩, ⟨.own .., trivial⟩, rfl, ?_⟩
          refine ⟨List ((Int × List (Int × Int)) × Bool), wayC, [], idxL t i, [[lcF t n]], 38, ⟨.refl _, .own ..⟩, fun _ => rfl, (by rw [hl]; simp only [List.length_cons, List.length_nil]; omega), ?_⟩
          refine ⟨?_, ?_⟩
          · kernel_rfl
          · skip
            refine ⟨(idxL t i ++ [[lcF t n]], lcK t n (idxE t i)), ⟨.refl _, .refl _, trivial⟩, ⟨⟨rfl, .refl _, trivial⟩, trivial⟩, trivial, ?_⟩
            exact ⟨.tup2 (.rowEq (by rw [e, ← hge])) (.int (by rw [e, ← hge])), rfl⟩
def qE (t r : Int × List (Int × Int)) (b : Int) : Int := mcK r (IntKind.i64.wrap (b - 1)) (lcK r 0 (lcK t 0 (lcK r (IntKind.i64.wrap (1 - b)) (mcK r 0 (mcK t (-1) 0)))))
def qW (t r : Int × List (Int × Int)) (b : Int) : List (List ((Int × List (Int × Int)) × Bool)) := [[mcF t (-1), mcF r 0, lcF r (IntKind.i64.wrap (1 - b))], [lcF t 0, lcF r 0, mcF r (IntKind.i64.wrap (b - 1))]]
def qB (n : Int) : Int := if n < IntKind.i64.wrap (0 - n) then IntKind.i64.wrap (0 - n) else n
def qX (v n : Int) : (Int × List (Int × Int)) × Int := scaleF (varF v).1 (IntKind.i64.wrap (0 - n))
def qR (t : Int × List (Int × Int)) (v n : Int) : (Int × List (Int × Int)) × Int := addF t (qX v n).1
def quotOk (t : Int × List (Int × Int)) (n v : Int) : Prop := right t ∧ -2147483648 ≤ n ∧ n ≤ 2147483647 ∧ ¬ (-1 ≤ n ∧ n ≤ 1) ∧ (varF v).2 = 0
instance (t : Int × List (Int × Int)) (n v : Int) : Decidable (quotOk t n v) := by unfold quotOk; infer_instance
def quotF (t : Int × List (Int × Int)) (n v : Int) : List (List ((Int × List (Int × Int)) × Bool)) × Int :=
  if quotOk t n v then if (qX v n).2 = 0 ∧ (qR t v n).2 = 0 then toldF (qE t (qR t v n).1 (qB n)) (qW t (qR t v n).1 (qB n)) else ([], 12) else ([], 1)
def fk_Quot : Ctr := { A := (Int × List (Int × Int)) × Int × Int, enc := fun x => [termS x.1, I x.2.1, I x.2.2], dom := fun _ => True, res := fun x _ => .tup [waysR (quotF x.1 x.2.1 x.2.2).1, I (quotF x.1 x.2.1 x.2.2).2] }
set_option maxRecDepth 100000 in
set_option maxHeartbeats 4000000 in
theorem fk_Quot_ok : CtrSound Try.prog 13 fk_Quot :=
  ctr_of_ax (env_okB tys_ok (eqs := []) trivial (cs := [(32, term_Var), (33, term_Scale), (34, term_Add), (26, term_Check), (28, fk_one)]) ⟨term_Var_ok, term_Scale_ok, term_Add_ok, term_Check_ok, fk_one_ok, trivial⟩ (bs := [(29, mk_most), (31, mk_least), (27, mk_told)]) ⟨mk_most_ok, mk_least_ok, mk_told_ok, trivial⟩ (qu := [3, 10])) mixed _ Try.func13 (by kernel_rfl) rfl (fun _ _ => Nat.le_of_ble_eq_true rfl) fun ((t, n, v) : (Int × List (Int × Int)) × Int × Int) id _ => by
    have bad : ¬ quotOk t n v → quotF t n v = ([], 1) := fun h => if_neg h
    have bad2 : quotOk t n v → ¬ ((qX v n).2 = 0 ∧ (qR t v n).2 = 0) → quotF t n v = ([], 12) := fun h h2 => by unfold quotF; rw [if_pos h, if_neg h2]
    have good : quotOk t n v → (qX v n).2 = 0 ∧ (qR t v n).2 = 0 → quotF t n v = toldF (qE t (qR t v n).1 (qB n)) (qW t (qR t v n).1 (qB n)) := fun h h2 => by unfold quotF; rw [if_pos h, if_pos h2]
    have okq : (checkF t != 0) = false → decide (n < -2147483648) = false → decide (n > 2147483647) = false → (decide (n ≥ -1) = false ∨ decide (n ≤ 1) = false) → ((varF v).2 != 0) = false → quotOk t n v := fun h1 h2 h3 h4 h5 => ⟨ckN h1, by have := of_decide_eq_false h2; omega, by have := of_decide_eq_false h3; omega, fun c => by rcases h4 with h4 | h4 <;> have := of_decide_eq_false h4 <;> omega, by simpa using h5⟩
    have badS : ¬ quotOk t n v → Sub (.tup [.val (.slice none 0 0), I 1]) (.tup [waysR (quotF t n v).1, I (quotF t n v).2]) := fun h => by rw [bad h]; exact .tup2 (.nil ..) (.refl _)
    have badT : quotOk t n v → ¬ ((qX v n).2 = 0 ∧ (qR t v n).2 = 0) → Sub (.tup [.val (.slice none 0 0), I 12]) (.tup [waysR (quotF t n v).1, I (quotF t n v).2]) := fun h h2 => by rw [bad2 h h2]; exact .tup2 (.nil ..) (.refl _)
    have endS : quotOk t n v → (qX v n).2 = 0 ∧ (qR t v n).2 = 0 → Sub (.tup [waysR (toldF (qE t (qR t v n).1 (qB n)) (qW t (qR t v n).1 (qB n))).1, I (toldF (qE t (qR t v n).1 (qB n)) (qW t (qR t v n).1 (qB n))).2]) (.tup [waysR (quotF t n v).1, I (quotF t n v).2]) := fun h h2 => by rw [good h h2]; exact .refl _
    refine ⟨v, ⟨.refl _, trivial⟩, rfl, trivial, ?_⟩
    refine ⟨t, ⟨.refl _, trivial⟩, rfl, trivial, ?_⟩
    refine ⟨?_, ?_⟩
    · skip
      intro h -- (checkF t != 0) = true
      exact ⟨badS (fun c => by first | exact ckY h c.1 | (have := of_decide_eq_true h; have := c.2.1; omega) | (have := of_decide_eq_true h; have := c.2.2.1; omega) | exact c.2.2.2.1 ⟨of_decide_eq_true ‹_›, of_decide_eq_true h⟩ | (simp [c.2.2.2.2] at h)), rfl⟩
    · skip
      intro h -- (checkF t != 0) = false
      refine ⟨?_, ?_⟩
      · skip
        intro h -- decide ((t, n, v).snd.fst < -2147483648) = true
        dsimp only at h
        exact ⟨badS (fun c => by first | exact ckY h c.1 | (have := of_decide_eq_true h; have := c.2.1; omega) | (have := of_decide_eq_true h; have := c.2.2.1; omega) | exact c.2.2.2.1 ⟨of_decide_eq_true ‹_›, of_decide_eq_true h⟩ | (simp [c.2.2.2.2] at h)), rfl⟩
      · skip
        intro h -- decide ((t, n, v).snd.fst < -2147483648) = false
        dsimp only at h
        refine ⟨?_, ?_⟩
        · skip
          intro h -- decide ((t, n, v).snd.fst > 2147483647) = true
          dsimp only at h
          exact ⟨badS (fun c => by first | exact ckY h c.1 | (have := of_decide_eq_true h; have := c.2.1; omega) | (have := of_decide_eq_true h; have := c.2.2.1; omega) | exact c.2.2.2.1 ⟨of_decide_eq_true ‹_›, of_decide_eq_true h⟩ | (simp [c.2.2.2.2] at h)), rfl⟩
        · skip
          intro h -- decide ((t, n, v).snd.fst > 2147483647) = false
          dsimp only at h
          refine ⟨?_, ?_⟩
          · skip
            intro h -- decide ((t, n, v).snd.fst ≥ -1) = true
            dsimp only at h
            refine ⟨?_, ?_⟩
            · skip
              intro h -- decide ((t, n, v).snd.fst ≤ 1) = true
              dsimp only at h
              exact ⟨badS (fun c => by first | exact ckY h c.1 | (have := of_decide_eq_true h; have := c.2.1; omega) | (have := of_decide_eq_true h; have := c.2.2.1; omega) | exact c.2.2.2.1 ⟨of_decide_eq_true ‹_›, of_decide_eq_true h⟩ | (simp [c.2.2.2.2] at h)), rfl⟩
            · skip
              intro h -- decide ((t, n, v).snd.fst ≤ 1) = false
              dsimp only at h
              refine ⟨?_, ?_⟩
              · skip
                intro h -- ((varF v).snd != 0) = true
                exact ⟨badS (fun c => by first | exact ckY h c.1 | (have := of_decide_eq_true h; have := c.2.1; omega) | (have := of_decide_eq_true h; have := c.2.2.1; omega) | exact c.2.2.2.1 ⟨of_decide_eq_true ‹_›, of_decide_eq_true h⟩ | (simp [c.2.2.2.2] at h)), rfl⟩
              · skip
                intro h -- ((varF v).snd != 0) = false
                refine ⟨((varF v).1, IntKind.i64.wrap (0 - n)), ⟨.agg2 (.refl _) (.own ..), .refl _, trivial⟩, rfl, trivial, ?_⟩
                refine ⟨(t, (qX v n).1), ⟨.refl _, .agg2 (.refl _) (.own ..), trivial⟩, rfl, trivial, ?_⟩
                refine ⟨?_, ?_⟩
                · skip
                  intro h -- ((scaleF ((varF v).fst, IntKind.i64.wrap (0 - n)).fst ((varF v).fst, IntKind.i64.wrap (0 - n)).snd).snd != 0) = true
                  dsimp only at h
                  exact ⟨badT (okq ‹(checkF t != 0) = false› ‹decide (n < -2147483648) = false› ‹decide (n > 2147483647) = false› (by first | exact Or.inl ‹decide (n ≥ -1) = false› | exact Or.inr ‹decide (n ≤ 1) = false›) ‹((varF v).2 != 0) = false›) (fun c => by have h := (show ((qX v n).2 != 0) = true from h); rw [c.1] at h; exact absurd h (by decide)), rfl⟩
                · skip
                  intro h -- ((scaleF ((varF v).fst, IntKind.i64.wrap (0 - n)).fst ((varF v).fst, IntKind.i64.wrap (0 - n)).snd).snd != 0) = false
                  dsimp only at h
                  refine ⟨?_, ?_⟩
                  · skip
                    intro h -- ((addF (t, (qX v n).fst).fst (t, (qX v n).fst).snd).snd != 0) = true
                    dsimp only at h
                    exact ⟨badT (okq ‹(checkF t != 0) = false› ‹decide (n < -2147483648) = false› ‹decide (n > 2147483647) = false› (by first | exact Or.inl ‹decide (n ≥ -1) = false› | exact Or.inr ‹decide (n ≤ 1) = false›) ‹((varF v).2 != 0) = false›) (fun c => by have h := (show ((qR t v n).2 != 0) = true from h); rw [c.2] at h; exact absurd h (by decide)), rfl⟩
                  · skip
                    intro h -- ((addF (t, (qX v n).fst).fst (t, (qX v n).fst).snd).snd != 0) = false
                    dsimp only at h
                    refine ⟨?_, ?_⟩
                    · kernel_rfl
                    · skip
                      refine ⟨?_, ?_⟩
                      · kernel_rfl
                      · skip
                        (refine ⟨(t, -1, 0), ⟨.refl _, .refl _, .refl _, trivial⟩, ⟨⟨rfl, .refl _, trivial⟩, trivial⟩, trivial, ?_⟩; refine ⟨by kernel_rfl, ?_⟩; refine ⟨((qR t v n).1, 0, mcK t (-1) (0)), ⟨.refl _, .refl _, .refl _, trivial⟩, ⟨⟨rfl, .refl _, trivial⟩, trivial⟩, trivial, ?_⟩; refine ⟨by kernel_rfl, ?_⟩; refine ⟨((qR t v n).1, IntKind.i64.wrap (1 - qB n), mcK (qR t v n).1 0 (mcK t (-1) (0))), ⟨.refl _, .refl _, .refl _, trivial⟩, ⟨⟨rfl, .refl _, trivial⟩, trivial⟩, trivial, ?_⟩; refine ⟨(Int × List (Int × Int)) × Bool, consC, ((0, []), false), [mcF t (-1), mcF (qR t v n).1 0, lcF (qR t v n).1 (IntKind.i64.wrap (1 - qB n))], ⟨rfl, fun _ => rfl⟩, ⟨.refl _, .refl _, .refl _, .refl _, .refl _, .refl _, .refl _, .refl _, .refl _, trivial⟩, rfl, ?_⟩; refine ⟨by kernel_rfl, ?_⟩; refine ⟨(t, 0, lcK (qR t v n).1 (IntKind.i64.wrap (1 - qB n)) (mcK (qR t v n).1 0 (mcK t (-1) (0)))), ⟨.refl _, .refl _, .refl _, trivial⟩, ⟨⟨rfl, .refl _, trivial⟩, trivial⟩, trivial, ?_⟩; refine ⟨by kernel_rfl, ?_⟩; refine ⟨((qR t v n).1, 0, lcK t 0 (lcK (qR t v n).1 (IntKind.i64.wrap (1 - qB n)) (mcK (qR t v n).1 0 (mcK t (-1) (0))))), ⟨.refl _, .refl _, .refl _, trivial⟩, ⟨⟨rfl, .refl _, trivial⟩, trivial⟩, trivial, ?_⟩; refine ⟨by kernel_rfl, ?_⟩; refine ⟨((qR t v n).1, IntKind.i64.wrap (qB n - 1), lcK (qR t v n).1 0 (lcK t 0 (lcK (qR t v n).1 (IntKind.i64.wrap (1 - qB n)) (mcK (qR t v n).1 0 (mcK t (-1) (0)))))), ⟨.refl _, .refl _, .refl _, trivial⟩, ⟨⟨rfl, .refl _, trivial⟩, trivial⟩, trivial, ?_⟩; refine ⟨(Int × List (Int × Int)) × Bool, consC, ((0, []), false), [lcF t 0, lcF (qR t v n).1 0, mcF (qR t v n).1 (IntKind.i64.wrap (qB n - 1))], ⟨rfl, fun _ => rfl⟩, ⟨.refl _, .refl _, .refl _, .refl _, .refl _, .refl _, .refl _, .refl _, .refl _, trivial⟩, rfl, ?_⟩; refine ⟨List ((Int × List (Int × Int)) × Bool), wayC, [], qW t (qR t v n).1 (qB n), ⟨rfl, fun _ => rfl⟩, ⟨.own .., .own .., trivial⟩, rfl, ?_⟩; refine ⟨by kernel_rfl, ?_⟩; refine ⟨(qW t (qR t v n).1 (qB n), qE t (qR t v n).1 (qB n)), ⟨.refl _, .refl _, trivial⟩, ⟨⟨rfl, .refl _, trivial⟩, trivial⟩, trivial, ?_⟩; exact ⟨endS (okq ‹(checkF t != 0) = false› ‹decide (n < -2147483648) = false› ‹decide (n > 2147483647) = false› (by first | exact Or.inl ‹decide (n ≥ -1) = false› | exact Or.inr ‹decide (n ≤ 1) = false›) ‹((varF v).2 != 0) = false›) ⟨eqz ‹((scaleF (varF v).1 (IntKind.i64.wrap (0 - n))).2 != 0) = false›, eqz h⟩, rfl⟩)
          · skip
            intro h -- decide ((t, n, v).snd.fst ≥ -1) = false
            dsimp only at h
            refine ⟨?_, ?_⟩
            · skip
              intro h -- ((varF v).snd != 0) = true
              exact ⟨badS (fun c => by first | exact ckY h c.1 | (have := of_decide_eq_true h; have := c.2.1; omega) | (have := of_decide_eq_true h; have := c.2.2.1; omega) | exact c.2.2.2.1 ⟨of_decide_eq_true ‹_›, of_decide_eq_true h⟩ | (simp [c.2.2.2.2] at h)), rfl⟩
            · skip
              intro h -- ((varF v).snd != 0) = false
              refine ⟨((varF v).1, IntKind.i64.wrap (0 - n)), ⟨.agg2 (.refl _) (.own ..), .refl _, trivial⟩, rfl, trivial, ?_⟩
              refine ⟨(t, (qX v n).1), ⟨.refl _, .agg2 (.refl _) (.own ..), trivial⟩, rfl, trivial, ?_⟩
              refine ⟨?_, ?_⟩
              · skip
                intro h -- ((scaleF ((varF v).fst, IntKind.i64.wrap (0 - n)).fst ((varF v).fst, IntKind.i64.wrap (0 - n)).snd).snd != 0) = true
                dsimp only at h
                exact ⟨badT (okq ‹(checkF t != 0) = false› ‹decide (n < -2147483648) = false› ‹decide (n > 2147483647) = false› (by first | exact Or.inl ‹decide (n ≥ -1) = false› | exact Or.inr ‹decide (n ≤ 1) = false›) ‹((varF v).2 != 0) = false›) (fun c => by have h := (show ((qX v n).2 != 0) = true from h); rw [c.1] at h; exact absurd h (by decide)), rfl⟩
              · skip
                intro h -- ((scaleF ((varF v).fst, IntKind.i64.wrap (0 - n)).fst ((varF v).fst, IntKind.i64.wrap (0 - n)).snd).snd != 0) = false
                dsimp only at h
                refine ⟨?_, ?_⟩
                · skip
                  intro h -- ((addF (t, (qX v n).fst).fst (t, (qX v n).fst).snd).snd != 0) = true
                  dsimp only at h
                  exact ⟨badT (okq ‹(checkF t != 0) = false› ‹decide (n < -2147483648) = false› ‹decide (n > 2147483647) = false› (by first | exact Or.inl ‹decide (n ≥ -1) = false› | exact Or.inr ‹decide (n ≤ 1) = false›) ‹((varF v).2 != 0) = false›) (fun c => by have h := (show ((qR t v n).2 != 0) = true from h); rw [c.2] at h; exact absurd h (by decide)), rfl⟩
                · skip
                  intro h -- ((addF (t, (qX v n).fst).fst (t, (qX v n).fst).snd).snd != 0) = false
                  dsimp only at h
                  refine ⟨?_, ?_⟩
                  · kernel_rfl
                  · skip
                    refine ⟨?_, ?_⟩
                    · kernel_rfl
                    · skip
                      (refine ⟨(t, -1, 0), ⟨.refl _, .refl _, .refl _, trivial⟩, ⟨⟨rfl, .refl _, trivial⟩, trivial⟩, trivial, ?_⟩; refine ⟨by kernel_rfl, ?_⟩; refine ⟨((qR t v n).1, 0, mcK t (-1) (0)), ⟨.refl _, .refl _, .refl _, trivial⟩, ⟨⟨rfl, .refl _, trivial⟩, trivial⟩, trivial, ?_⟩; refine ⟨by kernel_rfl, ?_⟩; refine ⟨((qR t v n).1, IntKind.i64.wrap (1 - qB n), mcK (qR t v n).1 0 (mcK t (-1) (0))), ⟨.refl _, .refl _, .refl _, trivial⟩, ⟨⟨rfl, .refl _, trivial⟩, trivial⟩, trivial, ?_⟩; refine ⟨(Int × List (Int × Int)) × Bool, consC, ((0, []), false), [mcF t (-1), mcF (qR t v n).1 0, lcF (qR t v n).1 (IntKind.i64.wrap (1 - qB n))], ⟨rfl, fun _ => rfl⟩, ⟨.refl _, .refl _, .refl _, .refl _, .refl _, .refl _, .refl _, .refl _, .refl _, trivial⟩, rfl, ?_⟩; refine ⟨by kernel_rfl, ?_⟩; refine ⟨(t, 0, lcK (qR t v n).1 (IntKind.i64.wrap (1 - qB n)) (mcK (qR t v n).1 0 (mcK t (-1) (0)))), ⟨.refl _, .refl _, .refl _, trivial⟩, ⟨⟨rfl, .refl _, trivial⟩, trivial⟩, trivial, ?_⟩; refine ⟨by kernel_rfl, ?_⟩; refine ⟨((qR t v n).1, 0, lcK t 0 (lcK (qR t v n).1 (IntKind.i64.wrap (1 - qB n)) (mcK (qR t v n).1 0 (mcK t (-1) (0))))), ⟨.refl _, .refl _, .refl _, trivial⟩, ⟨⟨rfl, .refl _, trivial⟩, trivial⟩, trivial, ?_⟩; refine ⟨by kernel_rfl, ?_⟩; refine ⟨((qR t v n).1, IntKind.i64.wrap (qB n - 1), lcK (qR t v n).1 0 (lcK t 0 (lcK (qR t v n).1 (IntKind.i64.wrap (1 - qB n)) (mcK (qR t v n).1 0 (mcK t (-1) (0)))))), ⟨.refl _, .refl _, .refl _, trivial⟩, ⟨⟨rfl, .refl _, trivial⟩, trivial⟩, trivial, ?_⟩; refine ⟨(Int × List (Int × Int)) × Bool, consC, ((0, []), false), [lcF t 0, lcF (qR t v n).1 0, mcF (qR t v n).1 (IntKind.i64.wrap (qB n - 1))], ⟨rfl, fun _ => rfl⟩, ⟨.refl _, .refl _, .refl _, .refl _, .refl _, .refl _, .refl _, .refl _, .refl _, trivial⟩, rfl, ?_⟩; refine ⟨List ((Int × List (Int × Int)) × Bool), wayC, [], qW t (qR t v n).1 (qB n), ⟨rfl, fun _ => rfl⟩, ⟨.own .., .own .., trivial⟩, rfl, ?_⟩; refine ⟨by kernel_rfl, ?_⟩; refine ⟨(qW t (qR t v n).1 (qB n), qE t (qR t v n).1 (qB n)), ⟨.refl _, .refl _, trivial⟩, ⟨⟨rfl, .refl _, trivial⟩, trivial⟩, trivial, ?_⟩; exact ⟨endS (okq ‹(checkF t != 0) = false› ‹decide (n < -2147483648) = false› ‹decide (n > 2147483647) = false› (by first | exact Or.inl ‹decide (n ≥ -1) = false› | exact Or.inr ‹decide (n ≤ 1) = false›) ‹((varF v).2 != 0) = false›) ⟨eqz ‹((scaleF (varF v).1 (IntKind.i64.wrap (0 - n))).2 != 0) = false›, eqz h⟩, rfl⟩)
end Go.Proofs.Ytndndemnjmdanaa.Ax
