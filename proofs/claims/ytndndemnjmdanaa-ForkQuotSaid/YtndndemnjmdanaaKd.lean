/- Layer fork by the logic: what the statements' own functions come to; ForkCounts. -/
import Derived.Test.YtndndemnjmdanaaKc
import Derived.Test.YtndndemnjmdanaaTr
set_option linter.unusedVariables false
set_option linter.unusedSimpArgs false
namespace Go.Proofs.Ytndndemnjmdanaa.Ax
open Go Go.RowKit
def xT : Int × List (Int × Int) := (0, [(0, 1)])
def f_x : Ctr := { A := Unit, enc := fun _ => [], dom := fun _ => True, res := fun _ id => termO xT id }
theorem f_x_ok : CtrSound Try.prog 35 f_x :=
  ctr_of_ax (env_ok tys_ok (eqs := []) trivial (cs := []) trivial) mixed _ Try.func35 (by kernel_rfl) rfl (fun _ _ => Nat.le_of_ble_eq_true rfl) fun _ id _ => by
    refine ⟨Int × Int, monoC, (0, 0), [(0, 1)], ⟨rfl, fun _ => rfl⟩, ⟨.refl _, .refl _, trivial⟩, rfl, ?_⟩
    exact ⟨.refl _, rfl⟩
def f_each : Ctr := { A := List (List ((Int × List (Int × Int)) × Bool)) × Int, enc := fun x => [waysR x.1, I x.2], dom := fun x => x.1.length ≤ 1000000, res := fun x _ => B (x.1.all fun y => !((y.length : Int) != x.2)) }
theorem f_each_ok : CtrSound Try.prog 14 f_each :=
  ctr_of_ax (env_ok tys_ok (eqs := []) trivial (cs := []) trivial) mixed _ Try.func14 (by kernel_rfl) rfl (fun _ _ => Nat.le_of_ble_eq_true rfl) fun ((l, n) : List (List ((Int × List (Int × Int)) × Bool)) × Int) id hd => by
    have hd : l.length ≤ 1000000 := hd
    refine ⟨Nat, fun i => [(0, waysR l), (1, I n), (5, I i)], fun _ => [], fun i => i ≤ l.length ∧ (l.drop i).all (fun y => !((y.length : Int) != n)) = l.all (fun y => !((y.length : Int) != n)), fun i => l.length - i, ⟨0, ⟨Nat.zero_le _, rfl⟩, ⟨⟨rfl, rfl⟩, .refl _, .refl _, .refl _, trivial⟩⟩, fun (i : Nat) hi => ?_⟩
    have hil := hi.1
    have hk := hi.2
    have hwj : IntKind.i64.wrap ((i : Int) + 1) = ((i + 1 : Nat) : Int) := by rw [wrap_eq _ (by omega) (by omega)]; omega
    refine ⟨fun h => ?_, fun h => ?_⟩
    · have hlt : i < l.length := by have := of_decide_eq_true h; omega
      rw [drop_at [] l i hlt, List.all_cons] at hk
      refine ⟨⟨by omega, by omega⟩, ?_⟩
      refine ⟨fun h => ?_, fun h => ?_⟩
      · have h : (((l.getD i []).length : Int) != n) = true := h
        rw [h] at hk
        exact ⟨.bff hk.symm, rfl⟩
      · have h : (((l.getD i []).length : Int) != n) = false := h
        rw [h] at hk
        exact ⟨i + 1, ⟨hlt, hk⟩, by show l.length - (i + 1) < l.length - i; omega, ⟨rfl, rfl⟩, .refl _, .refl _, .int hwj, trivial⟩
    · have hge : i = l.length := by have := of_decide_eq_false h; omega
      subst hge
      rw [List.drop_length] at hk
      exact ⟨.btt hk.symm, rfl⟩
theorem add_x (k n : Int) (h : right (0, [(0, k)])) (hn : right (n, [])) (hs : right (IntKind.i64.wrap (0 + n), [(0, k)])) (hk : k ≠ 0) : addF (0, [(0, k)]) (n, []) = ((IntKind.i64.wrap (0 + n), [(0, k)]), 0) := by
  unfold addF fitsF sumF
  simp only [mg_l, mg_nil, keep, if_neg hk]
  rw [if_pos ⟨h, hn⟩, if_pos hs]
theorem s3_11 : sum3 xT 1 1 = ((1, [(0, 1)]), 0) := by
  unfold sum3 xT; rw [show scaleF (0, [(0, 1)]) 1 = ((0, [(0, 1)]), 0) from by decide, show constF 1 = ((1, []), 0) from by decide, add_x 1 1 (by decide) (by decide) (by decide) (by decide)]; rfl
theorem s3_10 : sum3 xT 1 0 = ((0, [(0, 1)]), 0) := by
  unfold sum3 xT; rw [show scaleF (0, [(0, 1)]) 1 = ((0, [(0, 1)]), 0) from by decide, show constF 0 = ((0, []), 0) from by decide, add_x 1 0 (by decide) (by decide) (by decide) (by decide)]; rfl
theorem s3_1m : sum3 xT 1 (-1) = ((-1, [(0, 1)]), 0) := by
  unfold sum3 xT; rw [show scaleF (0, [(0, 1)]) 1 = ((0, [(0, 1)]), 0) from by decide, show constF (-1) = ((-1, []), 0) from by decide, add_x 1 (-1) (by decide) (by decide) (by decide) (by decide)]; rfl
theorem s3_m0 : sum3 xT (-1) 0 = ((0, [(0, -1)]), 0) := by
  unfold sum3 xT; rw [show scaleF (0, [(0, 1)]) (-1) = ((0, [(0, -1)]), 0) from by decide, show constF 0 = ((0, []), 0) from by decide, add_x (-1) 0 (by decide) (by decide) (by decide) (by decide)]; rfl
theorem s3_m2 : sum3 xT (-1) 2 = ((2, [(0, -1)]), 0) := by
  unfold sum3 xT; rw [show scaleF (0, [(0, 1)]) (-1) = ((0, [(0, -1)]), 0) from by decide, show constF 2 = ((2, []), 0) from by decide, add_x (-1) 2 (by decide) (by decide) (by decide) (by decide)]; rfl
theorem wk_below : belowF xT = ([[((1, [(0, 1)]), false)], [((0, [(0, -1)]), false)]], 0) := by
  unfold belowF lcK mcK lcF mcF
  rw [if_pos (by decide : right xT)]
  simp only [show IntKind.i64.wrap (0 - -1) = 1 from by decide, sumOk, s3_11, s3_m0, show scaleF xT 1 = ((0, [(0, 1)]), 0) from by decide, show scaleF xT (-1) = ((0, [(0, -1)]), 0) from by decide, show constF 0 = ((0, []), 0) from by decide, show constF 1 = ((1, []), 0) from by decide]
  rfl
theorem wk_index : indexF xT 2 = ([[((1, [(0, 1)]), false)], [((0, [(0, 1)]), true)], [((-1, [(0, 1)]), true)], [((2, [(0, -1)]), false)]], 0) := by
  unfold indexF
  rw [if_pos (by decide : right xT ∧ (0 : Int) ≤ 2 ∧ (2 : Int) ≤ 16)]
  simp only [show (2 : Int).toNat = 2 from rfl, idxL, idxE, icF, lcK, mcK, lcF, mcF, show IntKind.i64.wrap (0 - -1) = 1 from by decide, show IntKind.i64.wrap (0 - ((0 : Nat) : Int)) = 0 from by decide, show IntKind.i64.wrap (0 - ((0 + 1 : Nat) : Int)) = -1 from by decide, sumOk, s3_11, s3_10, s3_1m, s3_m0, s3_m2, show scaleF xT 1 = ((0, [(0, 1)]), 0) from by decide, show scaleF xT (-1) = ((0, [(0, -1)]), 0) from by decide, show constF 0 = ((0, []), 0) from by decide, show constF 1 = ((1, []), 0) from by decide, show constF (-1) = ((-1, []), 0) from by decide, show constF 2 = ((2, []), 0) from by decide]
  rfl
theorem wk_quot : quotF xT 1 1 = ([], 1) := if_neg fun h => h.2.2.2.1 ⟨by decide, by decide⟩
theorem w_below : CtrSound Try.prog 10 (at1 [termS xT] fun _ => .tup [waysR [[((1, [(0, 1)]), false)], [((0, [(0, -1)]), false)]], I 0]) :=
  fk_Below_ok.weaken (fun _ => xT) (fun _ _ => rfl) (fun _ _ => trivial) (fun _ _ _ => by
    show Sub (.tup [waysR (belowF xT).1, I (belowF xT).2]) _
    rw [wk_below]; exact .refl _)
theorem w_index : CtrSound Try.prog 12 (at1 [termS xT, I 2] fun _ => .tup [waysR [[((1, [(0, 1)]), false)], [((0, [(0, 1)]), true)], [((-1, [(0, 1)]), true)], [((2, [(0, -1)]), false)]], I 0]) :=
  fk_Index_ok.weaken (fun _ => ((xT, 2) : (Int × List (Int × Int)) × Int)) (fun _ _ => rfl) (fun _ _ => trivial) (fun _ _ _ => by
    show Sub (.tup [waysR (indexF xT 2).1, I (indexF xT 2).2]) _
    rw [wk_index]; exact .refl _)
theorem w_quot : CtrSound Try.prog 13 (at1 [termS xT, I 1, I 1] fun _ => .tup [waysR [], I 1]) :=
  fk_Quot_ok.weaken (fun _ => ((xT, 1, 1) : (Int × List (Int × Int)) × Int × Int)) (fun _ _ => rfl) (fun _ _ => trivial) (fun _ _ _ => by
    show Sub (.tup [waysR (quotF xT 1 1).1, I (quotF xT 1 1).2]) _
    rw [wk_quot]; exact .refl _)
def wakes20 : Ctr := { A := Unit, enc := fun _ => [], dom := fun _ => True, res := fun _ _ => .tt }
set_option maxRecDepth 100000 in
set_option maxHeartbeats 4000000 in
theorem wakes20_ok : CtrSound Try.prog 15 wakes20 :=
  ctr_of_ax (env_ok tys_ok (eqs := []) trivial (cs := [(35, f_x), (10, _), (12, _), (13, _)]) ⟨f_x_ok, w_below, w_index, w_quot, trivial⟩) mixed _ Try.func15 (by kernel_rfl) rfl (fun _ _ => Nat.le_of_ble_eq_true rfl) fun x id hd => by
    refine ⟨(), trivial, rfl, trivial, ?_⟩
    refine ⟨(), ⟨.agg2 (.refl _) (.own ..), trivial⟩, rfl, trivial, ?_⟩
    refine ⟨(), trivial, rfl, trivial, ?_⟩
    refine ⟨(), ⟨.agg2 (.refl _) (.own ..), .refl _, trivial⟩, rfl, trivial, ?_⟩
    refine ⟨(), trivial, rfl, trivial, ?_⟩
    refine ⟨(), ⟨.agg2 (.refl _) (.own ..), .refl _, .refl _, trivial⟩, rfl, trivial, ?_⟩
    refine ⟨?_, ?_⟩
    · skip
      intro h -- (0 == 0) = true
      refine ⟨?_, ?_⟩
      · skip
        intro h -- (0 == 0) = true
        refine ⟨?_, ?_⟩
        · skip
          intro h -- (1 == 1) = true
          refine ⟨?_, ?_⟩
          · skip
            intro h -- (↑[[((1, [(0, 1)]), false)], [((0, [(0, -1)]), false)]].length == 2) = true
            refine ⟨?_, ?_⟩
            · (refine And.intro ?_ ?_ <;> decide)
            · skip
              refine ⟨?_, ?_⟩
              · skip
                intro h -- (↑([[((1, [(0, 1)]), false)], [((0, [(0, -1)]), false)]].getD (Int.toNat 0) []).length == 1) = true
                refine ⟨?_, ?_⟩
                · (refine And.intro ?_ ?_ <;> decide)
                · skip
                  refine ⟨?_, ?_⟩
                  · (refine And.intro ?_ ?_ <;> decide)
                  · skip
                    refine ⟨?_, ?_⟩
                    · skip
                      intro h -- ((([[((1, [(0, 1)]), false)], [((0, [(0, -1)]), false)]].getD (Int.toNat 0) []).getD (Int.toNat 0) ((0, []), false)).fst.fst == 1) = true
                      refine ⟨?_, ?_⟩
                      · skip
                        intro h -- (↑[[((1, [(0, 1)]), false)], [((0, [(0, 1)]), true)], [((-1, [(0, 1)]), true)], [((2, [(0, -1)]), false)]].length == 4) = true
                        refine ⟨?_, ?_⟩
                        · (refine And.intro ?_ ?_ <;> decide)
                        · skip
                          refine ⟨?_, ?_⟩
                          · skip
                            intro h -- (↑([[((1, [(0, 1)]), false)], [((0, [(0, 1)]), true)], [((-1, [(0, 1)]), true)], [((2, [(0, -1)]), false)]].getD (Int.toNat 1) []).length == 1) = true
                            refine ⟨?_, ?_⟩
                            · (refine And.intro ?_ ?_ <;> decide)
                            · skip
                              refine ⟨?_, ?_⟩
                              · (refine And.intro ?_ ?_ <;> decide)
                              · skip
                                exact ⟨.toTT (by decide), rfl⟩
                          · skip
                            intro h -- (↑([[((1, [(0, 1)]), false)], [((0, [(0, 1)]), true)], [((-1, [(0, 1)]), true)], [((2, [(0, -1)]), false)]].getD (Int.toNat 1) []).length == 1) = false
                            (exact absurd h (by decide))
                      · skip
                        intro h -- (↑[[((1, [(0, 1)]), false)], [((0, [(0, 1)]), true)], [((-1, [(0, 1)]), true)], [((2, [(0, -1)]), false)]].length == 4) = false
                        (exact absurd h (by decide))
                    · skip
                      intro h -- ((([[((1, [(0, 1)]), false)], [((0, [(0, -1)]), false)]].getD (Int.toNat 0) []).getD (Int.toNat 0) ((0, []), false)).fst.fst == 1) = false
                      (exact absurd h (by decide))
              · skip
                intro h -- (↑([[((1, [(0, 1)]), false)], [((0, [(0, -1)]), false)]].getD (Int.toNat 0) []).length == 1) = false
                (exact absurd h (by decide))
          · skip
            intro h -- (↑[[((1, [(0, 1)]), false)], [((0, [(0, -1)]), false)]].length == 2) = false
            (exact absurd h (by decide))
        · skip
          intro h -- (1 == 1) = false
          (exact absurd h (by decide))
      · skip
        intro h -- (0 == 0) = false
        (exact absurd h (by decide))
    · skip
      intro h -- (0 == 0) = false
      (exact absurd h (by decide))
theorem told_eq {e : Int} {l : List (List ((Int × List (Int × Int)) × Bool))} (h : (toldF e l).2 = 0) : (toldF e l).1 = l ∧ e = 0 := by
  unfold toldF at h ⊢
  split at h
  · rename_i c; rw [if_pos c]; exact ⟨rfl, c⟩
  · rename_i c; exact absurd h c
theorem room0 {e : Int} {b : Bool} (h : roomE e b = 0) : e = 0 ∧ b = true := by
  unfold roomE at h
  cases b
  · simp at h
  · exact ⟨by simpa using h, rfl⟩
theorem sign_eq {t : Int × List (Int × Int)} (h : (signF t).2 = 0) : (signF t).1 = [[mcF t (-1)], [icF t 0], [lcF t 1]] ∧ right t ∧ lcK t 1 (mcK t 0 (mcK t (-1) 0)) = 0 := by
  unfold signF at h ⊢
  split at h
  · rename_i c; rw [if_pos c]; exact ⟨(told_eq h).1, c, (told_eq h).2⟩
  · simp at h
theorem below_eq {t : Int × List (Int × Int)} (h : (belowF t).2 = 0) : (belowF t).1 = [[mcF t (-1)], [lcF t 0]] ∧ right t ∧ lcK t 0 (mcK t (-1) 0) = 0 := by
  unfold belowF at h ⊢
  split at h
  · rename_i c; rw [if_pos c]; exact ⟨(told_eq h).1, c, (told_eq h).2⟩
  · simp at h
theorem fit_eq {t : Int × List (Int × Int)} (h : (fitF t).2 = 0) : (fitF t).1 = [[mcF t 2147483647, lcF t (-2147483648)], [lcF t 2147483648], [mcF t (-2147483649)]] ∧ right t ∧ mcK t (-2147483649) (lcK t 2147483648 (lcK t (-2147483648) (mcK t 2147483647 0))) = 0 := by
  unfold fitF at h ⊢
  split at h
  · rename_i c; rw [if_pos c]; exact ⟨(told_eq h).1, c, (told_eq h).2⟩
  · simp at h
theorem index_eq {t : Int × List (Int × Int)} {n : Int} (h : (indexF t n).2 = 0) : (indexF t n).1 = idxL t n.toNat ++ [[lcF t n]] ∧ right t ∧ (0 ≤ n ∧ n ≤ 16) ∧ lcK t n (idxE t n.toNat) = 0 := by
  unfold indexF at h ⊢
  split at h
  · rename_i c; rw [if_pos c]; exact ⟨(told_eq h).1, c.1, c.2, (told_eq h).2⟩
  · simp at h
theorem quot_eq {t : Int × List (Int × Int)} {n v : Int} (h : (quotF t n v).2 = 0) : (quotF t n v).1 = qW t (qR t v n).1 (qB n) ∧ quotOk t n v ∧ (qX v n).2 = 0 ∧ (qR t v n).2 = 0 ∧ qE t (qR t v n).1 (qB n) = 0 := by
  unfold quotF at h ⊢
  split at h
  · rename_i c
    rw [if_pos c]
    split at h
    · rename_i d; rw [if_pos d]; exact ⟨(told_eq h).1, c, d.1, d.2, (told_eq h).2⟩
    · simp at h
  · simp at h
theorem idxL_all (t : Int × List (Int × Int)) : ∀ k, (idxL t k).all (fun y => !((y.length : Int) != 1)) = true
  | 0 => rfl
  | k + 1 => by rw [idxL, List.all_append, idxL_all t k]; rfl
def u17 (v : Int) : Int := IntKind.i64.wrap ((IntKind.u64.wrap v).tmod 17)
theorem u17_in (v : Int) : 0 ≤ u17 v ∧ u17 v < 17 := by
  have h0 : 0 ≤ IntKind.u64.wrap v := by
    simp only [IntKind.wrap, IntKind.bits, IntKind.signed]; simp; omega
  have h1 := Int.tmod_nonneg 17 h0
  have h2 := Int.tmod_lt_of_pos (IntKind.u64.wrap v) (b := 17) (by omega)
  unfold u17
  rw [wrap_eq _ (by omega) (by omega)]
  exact ⟨h1, h2⟩
def ForkCounts : Ctr := { A := (Int × List (Int × Int)) × Int × Int × Int, enc := fun x => [termS x.1, I x.2.1, I x.2.2.1, I x.2.2.2], dom := fun _ => True, res := fun _ _ => .tt }
set_option maxRecDepth 100000 in
set_option maxHeartbeats 4000000 in
theorem ForkCounts_ok : CtrSound Try.prog 3 ForkCounts :=
  ctr_of_ax (env_ok tys_ok (eqs := []) trivial (cs := [(7, Heavy13), (8, ref_Right), (9, fk_Sign), (10, fk_Below), (11, fk_Fit), (12, fk_Index), (13, fk_Quot), (14, f_each), (15, wakes20)]) ⟨Heavy13_ok, ref_Right_ok, fk_Sign_ok, fk_Below_ok, fk_Fit_ok, fk_Index_ok, fk_Quot_ok, f_each_ok, wakes20_ok, trivial⟩) mixed _ Try.func3 (by kernel_rfl) rfl (fun _ _ => Nat.le_of_ble_eq_true rfl) fun ((t, n, b, v) : (Int × List (Int × Int)) × Int × Int × Int) id hd => by
    have hu := u17_in n
    have hw : IntKind.i64.wrap (u17 n + 2) = u17 n + 2 := wrap_eq _ (by omega) (by omega)
    refine ⟨t, ⟨.refl _, trivial⟩, rfl, trivial, fun h1 => ?_, fun h1 => ?_⟩
    · exact ⟨.refl _, rfl⟩
    refine ⟨t, ⟨.refl _, trivial⟩, rfl, trivial, fun h2 => ?_, fun h2 => ?_⟩
    · exact ⟨.refl _, rfl⟩
    refine ⟨by decide, ?_⟩
    refine ⟨t, ⟨.refl _, trivial⟩, rfl, trivial, ?_⟩
    refine ⟨t, ⟨.refl _, trivial⟩, rfl, trivial, ?_⟩
    refine ⟨t, ⟨.refl _, trivial⟩, rfl, trivial, ?_⟩
    refine ⟨(t, u17 n), ⟨.refl _, .refl _, trivial⟩, rfl, trivial, ?_⟩
    refine ⟨(t, b, v), ⟨.refl _, .refl _, .refl _, trivial⟩, rfl, trivial, ?_⟩
    refine ⟨?_, ?_⟩
    · skip
      intro h -- ((signF t).snd == 0) = true
      refine ⟨?_, ?_⟩
      · skip
        intro h -- (↑(signF t).fst.length != 3) = true
        (rw [(sign_eq (eq_of_beq ‹((signF t).2 == 0) = true›)).1] at h; simp at h; done)
      · skip
        intro h -- (↑(signF t).fst.length != 3) = false
        refine ⟨((signF t).1, 1), ⟨.refl _, .refl _, trivial⟩, rfl, (show (signF t).1.length ≤ 1000000 from by rw [(sign_eq (eq_of_beq ‹((signF t).2 == 0) = true›)).1]; exact Nat.le_of_ble_eq_true rfl), ?_⟩
        refine ⟨?_, ?_⟩
        · skip
          intro h -- (!((signF t).fst, 1).fst.all fun y => !↑y.length != ((signF t).fst, 1).snd) = true
          dsimp only at h
          (rw [(sign_eq (eq_of_beq ‹((signF t).2 == 0) = true›)).1] at h; simp at h; done)
        · skip
          intro h -- (!((signF t).fst, 1).fst.all fun y => !↑y.length != ((signF t).fst, 1).snd) = false
          dsimp only at h
          refine ⟨?_, ?_⟩
          · skip
            intro h -- ((belowF t).snd == 0) = true
            refine ⟨?_, ?_⟩
            · skip
              intro h -- (↑(belowF t).fst.length != 2) = true
              (rw [(below_eq (eq_of_beq ‹((belowF t).2 == 0) = true›)).1] at h; simp at h; done)
            · skip
              intro h -- (↑(belowF t).fst.length != 2) = false
              refine ⟨((belowF t).1, 1), ⟨.refl _, .refl _, trivial⟩, rfl, (show (belowF t).1.length ≤ 1000000 from by rw [(below_eq (eq_of_beq ‹((belowF t).2 == 0) = true›)).1]; exact Nat.le_of_ble_eq_true rfl), ?_⟩
              refine ⟨?_, ?_⟩
              · skip
                intro h -- (!((belowF t).fst, 1).fst.all fun y => !↑y.length != ((belowF t).fst, 1).snd) = true
                dsimp only at h
                (rw [(below_eq (eq_of_beq ‹((belowF t).2 == 0) = true›)).1] at h; simp at h; done)
              · skip
                intro h -- (!((belowF t).fst, 1).fst.all fun y => !↑y.length != ((belowF t).fst, 1).snd) = false
                dsimp only at h
                refine ⟨?_, ?_⟩
                · skip
                  intro h -- ((indexF (t, u17 n).fst (t, u17 n).snd).snd == 0) = true
                  dsimp only at h
                  refine ⟨?_, ?_⟩
                  · skip
                    intro h -- (↑(indexF (t, u17 n).fst (t, u17 n).snd).fst.length != IntKind.i64.wrap (IntKind.i64.wrap ((IntKind.u64.wrap (t, n, b, v).snd.fst).tmod 17) + 2)) = true
                    dsimp only at h
                    (have h := (show (((indexF t (u17 n)).1.length : Int) != IntKind.i64.wrap (u17 n + 2)) = true from h); rw [(index_eq (eq_of_beq ‹((indexF t (u17 n)).2 == 0) = true›)).1, hw] at h; simp [idxL_len] at h; omega)
                  · skip
                    intro h -- (↑(indexF (t, u17 n).fst (t, u17 n).snd).fst.length != IntKind.i64.wrap (IntKind.i64.wrap ((IntKind.u64.wrap (t, n, b, v).snd.fst).tmod 17) + 2)) = false
                    dsimp only at h
                    refine ⟨((indexF t (u17 n)).1, 1), ⟨.refl _, .refl _, trivial⟩, rfl, (show (indexF t (u17 n)).1.length ≤ 1000000 from by rw [(index_eq (eq_of_beq ‹((indexF t (u17 n)).2 == 0) = true›)).1]; simp [idxL_len]; omega), ?_⟩
                    refine ⟨?_, ?_⟩
                    · skip
                      intro h -- (!((indexF t (u17 n)).fst, 1).fst.all fun y => !↑y.length != ((indexF t (u17 n)).fst, 1).snd) = true
                      dsimp only at h
                      (rw [(index_eq (eq_of_beq ‹((indexF t (u17 n)).2 == 0) = true›)).1] at h; simp [idxL_len, idxL_all] at h; done)
                    · skip
                      intro h -- (!((indexF t (u17 n)).fst, 1).fst.all fun y => !↑y.length != ((indexF t (u17 n)).fst, 1).snd) = false
                      dsimp only at h
                      refine ⟨?_, ?_⟩
                      · skip
                        intro h -- ((quotF (t, b, v).fst (t, b, v).snd.fst (t, b, v).snd.snd).snd == 0) = true
                        dsimp only at h
                        refine ⟨?_, ?_⟩
                        · skip
                          intro h -- (↑(quotF (t, b, v).fst (t, b, v).snd.fst (t, b, v).snd.snd).fst.length != 2) = true
                          dsimp only at h
                          (rw [(quot_eq (eq_of_beq ‹((quotF t b v).2 == 0) = true›)).1] at h; simp [qW] at h; done)
                        · skip
                          intro h -- (↑(quotF (t, b, v).fst (t, b, v).snd.fst (t, b, v).snd.snd).fst.length != 2) = false
                          dsimp only at h
                          refine ⟨((quotF t b v).1, 3), ⟨.refl _, .refl _, trivial⟩, rfl, (show (quotF t b v).1.length ≤ 1000000 from by rw [(quot_eq (eq_of_beq ‹((quotF t b v).2 == 0) = true›)).1]; exact Nat.le_of_ble_eq_true rfl), ?_⟩
                          refine ⟨?_, ?_⟩
                          · skip
                            intro h -- (!((quotF t b v).fst, 3).fst.all fun y => !↑y.length != ((quotF t b v).fst, 3).snd) = true
                            dsimp only at h
                            (rw [(quot_eq (eq_of_beq ‹((quotF t b v).2 == 0) = true›)).1] at h; simp [qW] at h; done)
                          · skip
                            intro h -- (!((quotF t b v).fst, 3).fst.all fun y => !↑y.length != ((quotF t b v).fst, 3).snd) = false
                            dsimp only at h
                            refine ⟨?_, ?_⟩
                            · skip
                              intro h -- ((fitF t).snd == 0) = true
                              refine ⟨?_, ?_⟩
                              · skip
                                intro h -- (↑(fitF t).fst.length != 3) = true
                                (rw [(fit_eq (eq_of_beq ‹((fitF t).2 == 0) = true›)).1] at h; simp at h; done)
                              · skip
                                intro h -- (↑(fitF t).fst.length != 3) = false
                                refine ⟨?_, ?_⟩
                                · (rw [(fit_eq (eq_of_beq ‹((fitF t).2 == 0) = true›)).1]; refine And.intro ?_ ?_ <;> simp)
                                · skip
                                  refine ⟨?_, ?_⟩
                                  · skip
                                    intro h -- (↑((fitF t).fst.getD (Int.toNat 0) []).length != 2) = true
                                    (rw [(fit_eq (eq_of_beq ‹((fitF t).2 == 0) = true›)).1] at h; simp at h; done)
                                  · skip
                                    intro h -- (↑((fitF t).fst.getD (Int.toNat 0) []).length != 2) = false
                                    refine ⟨?_, ?_⟩
                                    · (rw [(fit_eq (eq_of_beq ‹((fitF t).2 == 0) = true›)).1]; refine And.intro ?_ ?_ <;> simp)
                                    · skip
                                      refine ⟨?_, ?_⟩
                                      · skip
                                        intro h -- (↑((fitF t).fst.getD (Int.toNat 1) []).length != 1) = true
                                        (rw [(fit_eq (eq_of_beq ‹((fitF t).2 == 0) = true›)).1] at h; simp at h; done)
                                      · skip
                                        intro h -- (↑((fitF t).fst.getD (Int.toNat 1) []).length != 1) = false
                                        refine ⟨?_, ?_⟩
                                        · (rw [(fit_eq (eq_of_beq ‹((fitF t).2 == 0) = true›)).1]; refine And.intro ?_ ?_ <;> simp)
                                        · skip
                                          refine ⟨?_, ?_⟩
                                          · skip
                                            intro h -- (↑((fitF t).fst.getD (Int.toNat 2) []).length != 1) = true
                                            (rw [(fit_eq (eq_of_beq ‹((fitF t).2 == 0) = true›)).1] at h; simp at h; done)
                                          · skip
                                            intro h -- (↑((fitF t).fst.getD (Int.toNat 2) []).length != 1) = false
                                            refine ⟨(), trivial, rfl, trivial, ?_⟩
                                            exact ⟨.refl _, rfl⟩
                            · skip
                              intro h -- ((fitF t).snd == 0) = false
                              refine ⟨(), trivial, rfl, trivial, ?_⟩
                              exact ⟨.refl _, rfl⟩
                      · skip
                        intro h -- ((quotF (t, b, v).fst (t, b, v).snd.fst (t, b, v).snd.snd).snd == 0) = false
                        dsimp only at h
                        refine ⟨?_, ?_⟩
                        · skip
                          intro h -- ((fitF t).snd == 0) = true
                          refine ⟨?_, ?_⟩
                          · skip
                            intro h -- (↑(fitF t).fst.length != 3) = true
                            (rw [(fit_eq (eq_of_beq ‹((fitF t).2 == 0) = true›)).1] at h; simp at h; done)
                          · skip
                            intro h -- (↑(fitF t).fst.length != 3) = false
                            refine ⟨?_, ?_⟩
                            · (rw [(fit_eq (eq_of_beq ‹((fitF t).2 == 0) = true›)).1]; refine And.intro ?_ ?_ <;> simp)
                            · skip
                              refine ⟨?_, ?_⟩
                              · skip
                                intro h -- (↑((fitF t).fst.getD (Int.toNat 0) []).length != 2) = true
                                (rw [(fit_eq (eq_of_beq ‹((fitF t).2 == 0) = true›)).1] at h; simp at h; done)
                              · skip
                                intro h -- (↑((fitF t).fst.getD (Int.toNat 0) []).length != 2) = false
                                refine ⟨?_, ?_⟩
                                · (rw [(fit_eq (eq_of_beq ‹((fitF t).2 == 0) = true›)).1]; refine And.intro ?_ ?_ <;> simp)
                                · skip
                                  refine ⟨?_, ?_⟩
                                  · skip
                                    intro h -- (↑((fitF t).fst.getD (Int.toNat 1) []).length != 1) = true
                                    (rw [(fit_eq (eq_of_beq ‹((fitF t).2 == 0) = true›)).1] at h; simp at h; done)
                                  · skip
                                    intro h -- (↑((fitF t).fst.getD (Int.toNat 1) []).length != 1) = false
                                    refine ⟨?_, ?_⟩
                                    · (rw [(fit_eq (eq_of_beq ‹((fitF t).2 == 0) = true›)).1]; refine And.intro ?_ ?_ <;> simp)
                                    · skip
                                      refine ⟨?_, ?_⟩
                                      · skip
                                        intro h -- (↑((fitF t).fst.getD (Int.toNat 2) []).length != 1) = true
                                        (rw [(fit_eq (eq_of_beq ‹((fitF t).2 == 0) = true›)).1] at h; simp at h; done)
                                      · skip
                                        intro h -- (↑((fitF t).fst.getD (Int.toNat 2) []).length != 1) = false
                                        refine ⟨(), trivial, rfl, trivial, ?_⟩
                                        exact ⟨.refl _, rfl⟩
                        · skip
                          intro h -- ((fitF t).snd == 0) = false
                          refine ⟨(), trivial, rfl, trivial, ?_⟩
                          exact ⟨.refl _, rfl⟩
                · skip
                  intro h -- ((indexF (t, u17 n).fst (t, u17 n).snd).snd == 0) = false
                  dsimp only at h
                  refine ⟨?_, ?_⟩
                  · skip
                    intro h -- ((quotF (t, b, v).fst (t, b, v).snd.fst (t, b, v).snd.snd).snd == 0) = true
                    dsimp only at h
                    refine ⟨?_, ?_⟩
                    · skip
                      intro h -- (↑(quotF (t, b, v).fst (t, b, v).snd.fst (t, b, v).snd.snd).fst.length != 2) = true
                      dsimp only at h
                      (rw [(quot_eq (eq_of_beq ‹((quotF t b v).2 == 0) = true›)).1] at h; simp [qW] at h; done)
                    · skip
                      intro h -- (↑(quotF (t, b, v).fst (t, b, v).snd.fst (t, b, v).snd.snd).fst.length != 2) = false
                      dsimp only at h
                      refine ⟨((quotF t b v).1, 3), ⟨.refl _, .refl _, trivial⟩, rfl, (show (quotF t b v).1.length ≤ 1000000 from by rw [(quot_eq (eq_of_beq ‹((quotF t b v).2 == 0) = true›)).1]; exact Nat.le_of_ble_eq_true rfl), ?_⟩
                      refine ⟨?_, ?_⟩
                      · skip
                        intro h -- (!((quotF t b v).fst, 3).fst.all fun y => !↑y.length != ((quotF t b v).fst, 3).snd) = true
                        dsimp only at h
                        (rw [(quot_eq (eq_of_beq ‹((quotF t b v).2 == 0) = true›)).1] at h; simp [qW] at h; done)
                      · skip
                        intro h -- (!((quotF t b v).fst, 3).fst.all fun y => !↑y.length != ((quotF t b v).fst, 3).snd) = false
                        dsimp only at h
                        refine ⟨?_, ?_⟩
                        · skip
                          intro h -- ((fitF t).snd == 0) = true
                          refine ⟨?_, ?_⟩
                          · skip
                            intro h -- (↑(fitF t).fst.length != 3) = true
                            (rw [(fit_eq (eq_of_beq ‹((fitF t).2 == 0) = true›)).1] at h; simp at h; done)
                          · skip
                            intro h -- (↑(fitF t).fst.length != 3) = false
                            refine ⟨?_, ?_⟩
                            · (rw [(fit_eq (eq_of_beq ‹((fitF t).2 == 0) = true›)).1]; refine And.intro ?_ ?_ <;> simp)
                            · skip
                              refine ⟨?_, ?_⟩
                              · skip
                                intro h -- (↑((fitF t).fst.getD (Int.toNat 0) []).length != 2) = true
                                (rw [(fit_eq (eq_of_beq ‹((fitF t).2 == 0) = true›)).1] at h; simp at h; done)
                              · skip
                                intro h -- (↑((fitF t).fst.getD (Int.toNat 0) []).length != 2) = false
                                refine ⟨?_, ?_⟩
                                · (rw [(fit_eq (eq_of_beq ‹((fitF t).2 == 0) = true›)).1]; refine And.intro ?_ ?_ <;> simp)
                                · skip
                                  refine ⟨?_, ?_⟩
                                  · skip
                                    intro h -- (↑((fitF t).fst.getD (Int.toNat 1) []).length != 1) = true
                                    (rw [(fit_eq (eq_of_beq ‹((fitF t).2 == 0) = true›)).1] at h; simp at h; done)
                                  · skip
                                    intro h -- (↑((fitF t).fst.getD (Int.toNat 1) []).length != 1) = false
                                    refine ⟨?_, ?_⟩
                                    · (rw [(fit_eq (eq_of_beq ‹((fitF t).2 == 0) = true›)).1]; refine And.intro ?_ ?_ <;> simp)
                                    · skip
                                      refine ⟨?_, ?_⟩
                                      · skip
                                        intro h -- (↑((fitF t).fst.getD (Int.toNat 2) []).length != 1) = true
                                        (rw [(fit_eq (eq_of_beq ‹((fitF t).2 == 0) = true›)).1] at h; simp at h; done)
                                      · skip
                                        intro h -- (↑((fitF t).fst.getD (Int.toNat 2) []).length != 1) = false
                                        refine ⟨(), trivial, rfl, trivial, ?_⟩
                                        exact ⟨.refl _, rfl⟩
                        · skip
                          intro h -- ((fitF t).snd == 0) = false
                          refine ⟨(), trivial, rfl, trivial, ?_⟩
                          exact ⟨.refl _, rfl⟩
                  · skip
                    intro h -- ((quotF (t, b, v).fst (t, b, v).snd.fst (t, b, v).snd.snd).snd == 0) = false
                    dsimp only at h
                    refine ⟨?_, ?_⟩
                    · skip
                      intro h -- ((fitF t).snd == 0) = true
                      refine ⟨?_, ?_⟩
                      · skip
                        intro h -- (↑(fitF t).fst.length != 3) = true
                        (rw [(fit_eq (eq_of_beq ‹((fitF t).2 == 0) = true›)).1] at h; simp at h; done)
                      · skip
                        intro h -- (↑(fitF t).fst.length != 3) = false
                        refine ⟨?_, ?_⟩
                        · (rw [(fit_eq (eq_of_beq ‹((fitF t).2 == 0) = true›)).1]; refine And.intro ?_ ?_ <;> simp)
                        · skip
                          refine ⟨?_, ?_⟩
                          · skip
                            intro h -- (↑((fitF t).fst.getD (Int.toNat 0) []).length != 2) = true
                            (rw [(fit_eq (eq_of_beq ‹((fitF t).2 == 0) = true›)).1] at h; simp at h; done)
                          · skip
                            intro h -- (↑((fitF t).fst.getD (Int.toNat 0) []).length != 2) = false
                            refine ⟨?_, ?_⟩
                            · (rw [(fit_eq (eq_of_beq ‹((fitF t).2 == 0) = true›)).1]; refine And.intro ?_ ?_ <;> simp)
                            · skip
                              refine ⟨?_, ?_⟩
                              · skip
                                intro h -- (↑((fitF t).fst.getD (Int.toNat 1) []).length != 1) = true
                                (rw [(fit_eq (eq_of_beq ‹((fitF t).2 == 0) = true›)).1] at h; simp at h; done)
                              · skip
                                intro h -- (↑((fitF t).fst.getD (Int.toNat 1) []).length != 1) = false
                                refine ⟨?_, ?_⟩
                                · (rw [(fit_eq (eq_of_beq ‹((fitF t).2 == 0) = true›)).1]; refine And.intro ?_ ?_ <;> simp)
                                · skip
                                  refine ⟨?_, ?_⟩
                                  · skip
                                    intro h -- (↑((fitF t).fst.getD (Int.toNat 2) []).length != 1) = true
                                    (rw [(fit_eq (eq_of_beq ‹((fitF t).2 == 0) = true›)).1] at h; simp at h; done)
                                  · skip
                                    intro h -- (↑((fitF t).fst.getD (Int.toNat 2) []).length != 1) = false
                                    refine ⟨(), trivial, rfl, trivial, ?_⟩
                                    exact ⟨.refl _, rfl⟩
                    · skip
                      intro h -- ((fitF t).snd == 0) = false
                      refine ⟨(), trivial, rfl, trivial, ?_⟩
                      exact ⟨.refl _, rfl⟩
          · skip
            intro h -- ((belowF t).snd == 0) = false
            refine ⟨?_, ?_⟩
            · skip
              intro h -- ((indexF (t, u17 n).fst (t, u17 n).snd).snd == 0) = true
              dsimp only at h
              refine ⟨?_, ?_⟩
              · skip
                intro h -- (↑(indexF (t, u17 n).fst (t, u17 n).snd).fst.length != IntKind.i64.wrap (IntKind.i64.wrap ((IntKind.u64.wrap (t, n, b, v).snd.fst).tmod 17) + 2)) = true
                dsimp only at h
                (have h := (show (((indexF t (u17 n)).1.length : Int) != IntKind.i64.wrap (u17 n + 2)) = true from h); rw [(index_eq (eq_of_beq ‹((indexF t (u17 n)).2 == 0) = true›)).1, hw] at h; simp [idxL_len] at h; omega)
              · skip
                intro h -- (↑(indexF (t, u17 n).fst (t, u17 n).snd).fst.length != IntKind.i64.wrap (IntKind.i64.wrap ((IntKind.u64.wrap (t, n, b, v).snd.fst).tmod 17) + 2)) = false
                dsimp only at h
                refine ⟨((indexF t (u17 n)).1, 1), ⟨.refl _, .refl _, trivial⟩, rfl, (show (indexF t (u17 n)).1.length ≤ 1000000 from by rw [(index_eq (eq_of_beq ‹((indexF t (u17 n)).2 == 0) = true›)).1]; simp [idxL_len]; omega), ?_⟩
                refine ⟨?_, ?_⟩
                · skip
                  intro h -- (!((indexF t (u17 n)).fst, 1).fst.all fun y => !↑y.length != ((indexF t (u17 n)).fst, 1).snd) = true
                  dsimp only at h
                  (rw [(index_eq (eq_of_beq ‹((indexF t (u17 n)).2 == 0) = true›)).1] at h; simp [idxL_len, idxL_all] at h; done)
                · skip
                  intro h -- (!((indexF t (u17 n)).fst, 1).fst.all fun y => !↑y.length != ((indexF t (u17 n)).fst, 1).snd) = false
                  dsimp only at h
                  refine ⟨?_, ?_⟩
                  · skip
                    intro h -- ((quotF (t, b, v).fst (t, b, v).snd.fst (t, b, v).snd.snd).snd == 0) = true
                    dsimp only at h
                    refine ⟨?_, ?_⟩
                    · skip
                      intro h -- (↑(quotF (t, b, v).fst (t, b, v).snd.fst (t, b, v).snd.snd).fst.length != 2) = true
                      dsimp only at h
                      (rw [(quot_eq (eq_of_beq ‹((quotF t b v).2 == 0) = true›)).1] at h; simp [qW] at h; done)
                    · skip
                      intro h -- (↑(quotF (t, b, v).fst (t, b, v).snd.fst (t, b, v).snd.snd).fst.length != 2) = false
                      dsimp only at h
                      refine ⟨((quotF t b v).1, 3), ⟨.refl _, .refl _, trivial⟩, rfl, (show (quotF t b v).1.length ≤ 1000000 from by rw [(quot_eq (eq_of_beq ‹((quotF t b v).2 == 0) = true›)).1]; exact Nat.le_of_ble_eq_true rfl), ?_⟩
                      refine ⟨?_, ?_⟩
                      · skip
                        intro h -- (!((quotF t b v).fst, 3).fst.all fun y => !↑y.length != ((quotF t b v).fst, 3).snd) = true
                        dsimp only at h
                        (rw [(quot_eq (eq_of_beq ‹((quotF t b v).2 == 0) = true›)).1] at h; simp [qW] at h; done)
                      · skip
                        intro h -- (!((quotF t b v).fst, 3).fst.all fun y => !↑y.length != ((quotF t b v).fst, 3).snd) = false
                        dsimp only at h
                        refine ⟨?_, ?_⟩
                        · skip
                          intro h -- ((fitF t).snd == 0) = true
                          refine ⟨?_, ?_⟩
                          · skip
                            intro h -- (↑(fitF t).fst.length != 3) = true
                            (rw [(fit_eq (eq_of_beq ‹((fitF t).2 == 0) = true›)).1] at h; simp at h; done)
                          · skip
                            intro h -- (↑(fitF t).fst.length != 3) = false
                            refine ⟨?_, ?_⟩
                            · (rw [(fit_eq (eq_of_beq ‹((fitF t).2 == 0) = true›)).1]; refine And.intro ?_ ?_ <;> simp)
                            · skip
                              refine ⟨?_, ?_⟩
                              · skip
                                intro h -- (↑((fitF t).fst.getD (Int.toNat 0) []).length != 2) = true
                                (rw [(fit_eq (eq_of_beq ‹((fitF t).2 == 0) = true›)).1] at h; simp at h; done)
                              · skip
                                intro h -- (↑((fitF t).fst.getD (Int.toNat 0) []).length != 2) = false
                                refine ⟨?_, ?_⟩
                                · (rw [(fit_eq (eq_of_beq ‹((fitF t).2 == 0) = true›)).1]; refine And.intro ?_ ?_ <;> simp)
                                · skip
                                  refine ⟨?_, ?_⟩
                                  · skip
                                    intro h -- (↑((fitF t).fst.getD (Int.toNat 1) []).length != 1) = true
                                    (rw [(fit_eq (eq_of_beq ‹((fitF t).2 == 0) = true›)).1] at h; simp at h; done)
                                  · skip
                                    intro h -- (↑((fitF t).fst.getD (Int.toNat 1) []).length != 1) = false
                                    refine ⟨?_, ?_⟩
                                    · (rw [(fit_eq (eq_of_beq ‹((fitF t).2 == 0) = true›)).1]; refine And.intro ?_ ?_ <;> simp)
                                    · skip
                                      refine ⟨?_, ?_⟩
                                      · skip
                                        intro h -- (↑((fitF t).fst.getD (Int.toNat 2) []).length != 1) = true
                                        (rw [(fit_eq (eq_of_beq ‹((fitF t).2 == 0) = true›)).1] at h; simp at h; done)
                                      · skip
                                        intro h -- (↑((fitF t).fst.getD (Int.toNat 2) []).length != 1) = false
                                        refine ⟨(), trivial, rfl, trivial, ?_⟩
                                        exact ⟨.refl _, rfl⟩
                        · skip
                          intro h -- ((fitF t).snd == 0) = false
                          refine ⟨(), trivial, rfl, trivial, ?_⟩
                          exact ⟨.refl _, rfl⟩
                  · skip
                    intro h -- ((quotF (t, b, v).fst (t, b, v).snd.fst (t, b, v).snd.snd).snd == 0) = false
                    dsimp only at h
                    refine ⟨?_, ?_⟩
                    · skip
                      intro h -- ((fitF t).snd == 0) = true
                      refine ⟨?_, ?_⟩
                      · skip
                        intro h -- (↑(fitF t).fst.length != 3) = true
                        (rw [(fit_eq (eq_of_beq ‹((fitF t).2 == 0) = true›)).1] at h; simp at h; done)
                      · skip
                        intro h -- (↑(fitF t).fst.length != 3) = false
                        refine ⟨?_, ?_⟩
                        · (rw [(fit_eq (eq_of_beq ‹((fitF t).2 == 0) = true›)).1]; refine And.intro ?_ ?_ <;> simp)
                        · skip
                          refine ⟨?_, ?_⟩
                          · skip
                            intro h -- (↑((fitF t).fst.getD (Int.toNat 0) []).length != 2) = true
                            (rw [(fit_eq (eq_of_beq ‹((fitF t).2 == 0) = true›)).1] at h; simp at h; done)
                          · skip
                            intro h -- (↑((fitF t).fst.getD (Int.toNat 0) []).length != 2) = false
                            refine ⟨?_, ?_⟩
                            · (rw [(fit_eq (eq_of_beq ‹((fitF t).2 == 0) = true›)).1]; refine And.intro ?_ ?_ <;> simp)
                            · skip
                              refine ⟨?_, ?_⟩
                              · skip
                                intro h -- (↑((fitF t).fst.getD (Int.toNat 1) []).length != 1) = true
                                (rw [(fit_eq (eq_of_beq ‹((fitF t).2 == 0) = true›)).1] at h; simp at h; done)
                              · skip
                                intro h -- (↑((fitF t).fst.getD (Int.toNat 1) []).length != 1) = false
                                refine ⟨?_, ?_⟩
                                · (rw [(fit_eq (eq_of_beq ‹((fitF t).2 == 0) = true›)).1]; refine And.intro ?_ ?_ <;> simp)
                                · skip
                                  refine ⟨?_, ?_⟩
                                  · skip
                                    intro h -- (↑((fitF t).fst.getD (Int.toNat 2) []).length != 1) = true
                                    (rw [(fit_eq (eq_of_beq ‹((fitF t).2 == 0) = true›)).1] at h; simp at h; done)
                                  · skip
                                    intro h -- (↑((fitF t).fst.getD (Int.toNat 2) []).length != 1) = false
                                    refine ⟨(), trivial, rfl, trivial, ?_⟩
                                    exact ⟨.refl _, rfl⟩
                    · skip
                      intro h -- ((fitF t).snd == 0) = false
                      refine ⟨(), trivial, rfl, trivial, ?_⟩
                      exact ⟨.refl _, rfl⟩
            · skip
              intro h -- ((indexF (t, u17 n).fst (t, u17 n).snd).snd == 0) = false
              dsimp only at h
              refine ⟨?_, ?_⟩
              · skip
                intro h -- ((quotF (t, b, v).fst (t, b, v).snd.fst (t, b, v).snd.snd).snd == 0) = true
                dsimp only at h
                refine ⟨?_, ?_⟩
                · skip
                  intro h -- (↑(quotF (t, b, v).fst (t, b, v).snd.fst (t, b, v).snd.snd).fst.length != 2) = true
                  dsimp only at h
                  (rw [(quot_eq (eq_of_beq ‹((quotF t b v).2 == 0) = true›)).1] at h; simp [qW] at h; done)
                · skip
                  intro h -- (↑(quotF (t, b, v).fst (t, b, v).snd.fst (t, b, v).snd.snd).fst.length != 2) = false
                  dsimp only at h
                  refine ⟨((quotF t b v).1, 3), ⟨.refl _, .refl _, trivial⟩, rfl, (show (quotF t b v).1.length ≤ 1000000 from by rw [(quot_eq (eq_of_beq ‹((quotF t b v).2 == 0) = true›)).1]; exact Nat.le_of_ble_eq_true rfl), ?_⟩
                  refine ⟨?_, ?_⟩
                  · skip
                    intro h -- (!((quotF t b v).fst, 3).fst.all fun y => !↑y.length != ((quotF t b v).fst, 3).snd) = true
                    dsimp only at h
                    (rw [(quot_eq (eq_of_beq ‹((quotF t b v).2 == 0) = true›)).1] at h; simp [qW] at h; done)
                  · skip
                    intro h -- (!((quotF t b v).fst, 3).fst.all fun y => !↑y.length != ((quotF t b v).fst, 3).snd) = false
                    dsimp only at h
                    refine ⟨?_, ?_⟩
                    · skip
                      intro h -- ((fitF t).snd == 0) = true
                      refine ⟨?_, ?_⟩
                      · skip
                        intro h -- (↑(fitF t).fst.length != 3) = true
                        (rw [(fit_eq (eq_of_beq ‹((fitF t).2 == 0) = true›)).1] at h; simp at h; done)
                      · skip
                        intro h -- (↑(fitF t).fst.length != 3) = false
                        refine ⟨?_, ?_⟩
                        · (rw [(fit_eq (eq_of_beq ‹((fitF t).2 == 0) = true›)).1]; refine And.intro ?_ ?_ <;> simp)
                        · skip
                          refine ⟨?_, ?_⟩
                          · skip
                            intro h -- (↑((fitF t).fst.getD (Int.toNat 0) []).length != 2) = true
                            (rw [(fit_eq (eq_of_beq ‹((fitF t).2 == 0) = true›)).1] at h; simp at h; done)
                          · skip
                            intro h -- (↑((fitF t).fst.getD (Int.toNat 0) []).length != 2) = false
                            refine ⟨?_, ?_⟩
                            · (rw [(fit_eq (eq_of_beq ‹((fitF t).2 == 0) = true›)).1]; refine And.intro ?_ ?_ <;> simp)
                            · skip
                              refine ⟨?_, ?_⟩
                              · skip
                                intro h -- (↑((fitF t).fst.getD (Int.toNat 1) []).length != 1) = true
                                (rw [(fit_eq (eq_of_beq ‹((fitF t).2 == 0) = true›)).1] at h; simp at h; done)
                              · skip
                                intro h -- (↑((fitF t).fst.getD (Int.toNat 1) []).length != 1) = false
                                refine ⟨?_, ?_⟩
                                · (rw [(fit_eq (eq_of_beq ‹((fitF t).2 == 0) = true›)).1]; refine And.intro ?_ ?_ <;> simp)
                                · skip
                                  refine ⟨?_, ?_⟩
                                  · skip
                                    intro h -- (↑((fitF t).fst.getD (Int.toNat 2) []).length != 1) = true
                                    (rw [(fit_eq (eq_of_beq ‹((fitF t).2 == 0) = true›)).1] at h; simp at h; done)
                                  · skip
                                    intro h -- (↑((fitF t).fst.getD (Int.toNat 2) []).length != 1) = false
                                    refine ⟨(), trivial, rfl, trivial, ?_⟩
                                    exact ⟨.refl _, rfl⟩
                    · skip
                      intro h -- ((fitF t).snd == 0) = false
                      refine ⟨(), trivial, rfl, trivial, ?_⟩
                      exact ⟨.refl _, rfl⟩
              · skip
                intro h -- ((quotF (t, b, v).fst (t, b, v).snd.fst (t, b, v).snd.snd).snd == 0) = false
                dsimp only at h
                refine ⟨?_, ?_⟩
                · skip
                  intro h -- ((fitF t).snd == 0) = true
                  refine ⟨?_, ?_⟩
                  · skip
                    intro h -- (↑(fitF t).fst.length != 3) = true
                    (rw [(fit_eq (eq_of_beq ‹((fitF t).2 == 0) = true›)).1] at h; simp at h; done)
                  · skip
                    intro h -- (↑(fitF t).fst.length != 3) = false
                    refine ⟨?_, ?_⟩
                    · (rw [(fit_eq (eq_of_beq ‹((fitF t).2 == 0) = true›)).1]; refine And.intro ?_ ?_ <;> simp)
                    · skip
                      refine ⟨?_, ?_⟩
                      · skip
                        intro h -- (↑((fitF t).fst.getD (Int.toNat 0) []).length != 2) = true
                        (rw [(fit_eq (eq_of_beq ‹((fitF t).2 == 0) = true›)).1] at h; simp at h; done)
                      · skip
                        intro h -- (↑((fitF t).fst.getD (Int.toNat 0) []).length != 2) = false
                        refine ⟨?_, ?_⟩
                        · (rw [(fit_eq (eq_of_beq ‹((fitF t).2 == 0) = true›)).1]; refine And.intro ?_ ?_ <;> simp)
                        · skip
                          refine ⟨?_, ?_⟩
                          · skip
                            intro h -- (↑((fitF t).fst.getD (Int.toNat 1) []).length != 1) = true
                            (rw [(fit_eq (eq_of_beq ‹((fitF t).2 == 0) = true›)).1] at h; simp at h; done)
                          · skip
                            intro h -- (↑((fitF t).fst.getD (Int.toNat 1) []).length != 1) = false
                            refine ⟨?_, ?_⟩
                            · (rw [(fit_eq (eq_of_beq ‹((fitF t).2 == 0) = true›)).1]; refine And.intro ?_ ?_ <;> simp)
                            · skip
                              refine ⟨?_, ?_⟩
                              · skip
                                intro h -- (↑((fitF t).fst.getD (Int.toNat 2) []).length != 1) = true
                                (rw [(fit_eq (eq_of_beq ‹((fitF t).2 == 0) = true›)).1] at h; simp at h; done)
                              · skip
                                intro h -- (↑((fitF t).fst.getD (Int.toNat 2) []).length != 1) = false
                                refine ⟨(), trivial, rfl, trivial, ?_⟩
                                exact ⟨.refl _, rfl⟩
                · skip
                  intro h -- ((fitF t).snd == 0) = false
                  refine ⟨(), trivial, rfl, trivial, ?_⟩
                  exact ⟨.refl _, rfl⟩
    · skip
      intro h -- ((signF t).snd == 0) = false
      refine ⟨?_, ?_⟩
      · skip
        intro h -- ((belowF t).snd == 0) = true
        refine ⟨?_, ?_⟩
        · skip
          intro h -- (↑(belowF t).fst.length != 2) = true
          (rw [(below_eq (eq_of_beq ‹((belowF t).2 == 0) = true›)).1] at h; simp at h; done)
        · skip
          intro h -- (↑(belowF t).fst.length != 2) = false
          refine ⟨((belowF t).1, 1), ⟨.refl _, .refl _, trivial⟩, rfl, (show (belowF t).1.length ≤ 1000000 from by rw [(below_eq (eq_of_beq ‹((belowF t).2 == 0) = true›)).1]; exact Nat.le_of_ble_eq_true rfl), ?_⟩
          refine ⟨?_, ?_⟩
          · skip
            intro h -- (!((belowF t).fst, 1).fst.all fun y => !↑y.length != ((belowF t).fst, 1).snd) = true
            dsimp only at h
            (rw [(below_eq (eq_of_beq ‹((belowF t).2 == 0) = true›)).1] at h; simp at h; done)
          · skip
            intro h -- (!((belowF t).fst, 1).fst.all fun y => !↑y.length != ((belowF t).fst, 1).snd) = false
            dsimp only at h
            refine ⟨?_, ?_⟩
            · skip
              intro h -- ((indexF (t, u17 n).fst (t, u17 n).snd).snd == 0) = true
              dsimp only at h
              refine ⟨?_, ?_⟩
              · skip
                intro h -- (↑(indexF (t, u17 n).fst (t, u17 n).snd).fst.length != IntKind.i64.wrap (IntKind.i64.wrap ((IntKind.u64.wrap (t, n, b, v).snd.fst).tmod 17) + 2)) = true
                dsimp only at h
                (have h := (show (((indexF t (u17 n)).1.length : Int) != IntKind.i64.wrap (u17 n + 2)) = true from h); rw [(index_eq (eq_of_beq ‹((indexF t (u17 n)).2 == 0) = true›)).1, hw] at h; simp [idxL_len] at h; omega)
              · skip
                intro h -- (↑(indexF (t, u17 n).fst (t, u17 n).snd).fst.length != IntKind.i64.wrap (IntKind.i64.wrap ((IntKind.u64.wrap (t, n, b, v).snd.fst).tmod 17) + 2)) = false
                dsimp only at h
                refine ⟨((indexF t (u17 n)).1, 1), ⟨.refl _, .refl _, trivial⟩, rfl, (show (indexF t (u17 n)).1.length ≤ 1000000 from by rw [(index_eq (eq_of_beq ‹((indexF t (u17 n)).2 == 0) = true›)).1]; simp [idxL_len]; omega), ?_⟩
                refine ⟨?_, ?_⟩
                · skip
                  intro h -- (!((indexF t (u17 n)).fst, 1).fst.all fun y => !↑y.length != ((indexF t (u17 n)).fst, 1).snd) = true
                  dsimp only at h
                  (rw [(index_eq (eq_of_beq ‹((indexF t (u17 n)).2 == 0) = true›)).1] at h; simp [idxL_len, idxL_all] at h; done)
                · skip
                  intro h -- (!((indexF t (u17 n)).fst, 1).fst.all fun y => !↑y.length != ((indexF t (u17 n)).fst, 1).snd) = false
                  dsimp only at h
                  refine ⟨?_, ?_⟩
                  · skip
                    intro h -- ((quotF (t, b, v).fst (t, b, v).snd.fst (t, b, v).snd.snd).snd == 0) = true
                    dsimp only at h
                    refine ⟨?_, ?_⟩
                    · skip
                      intro h -- (↑(quotF (t, b, v).fst (t, b, v).snd.fst (t, b, v).snd.snd).fst.length != 2) = true
                      dsimp only at h
                      (rw [(quot_eq (eq_of_beq ‹((quotF t b v).2 == 0) = true›)).1] at h; simp [qW] at h; done)
                    · skip
                      intro h -- (↑(quotF (t, b, v).fst (t, b, v).snd.fst (t, b, v).snd.snd).fst.length != 2) = false
                      dsimp only at h
                      refine ⟨((quotF t b v).1, 3), ⟨.refl _, .refl _, trivial⟩, rfl, (show (quotF t b v).1.length ≤ 1000000 from by rw [(quot_eq (eq_of_beq ‹((quotF t b v).2 == 0) = true›)).1]; exact Nat.le_of_ble_eq_true rfl), ?_⟩
                      refine ⟨?_, ?_⟩
                      · skip
                        intro h -- (!((quotF t b v).fst, 3).fst.all fun y => !↑y.length != ((quotF t b v).fst, 3).snd) = true
                        dsimp only at h
                        (rw [(quot_eq (eq_of_beq ‹((quotF t b v).2 == 0) = true›)).1] at h; simp [qW] at h; done)
                      · skip
                        intro h -- (!((quotF t b v).fst, 3).fst.all fun y => !↑y.length != ((quotF t b v).fst, 3).snd) = false
                        dsimp only at h
                        refine ⟨?_, ?_⟩
                        · skip
                          intro h -- ((fitF t).snd == 0) = true
                          refine ⟨?_, ?_⟩
                          · skip
                            intro h -- (↑(fitF t).fst.length != 3) = true
                            (rw [(fit_eq (eq_of_beq ‹((fitF t).2 == 0) = true›)).1] at h; simp at h; done)
                          · skip
                            intro h -- (↑(fitF t).fst.length != 3) = false
                            refine ⟨?_, ?_⟩
                            · (rw [(fit_eq (eq_of_beq ‹((fitF t).2 == 0) = true›)).1]; refine And.intro ?_ ?_ <;> simp)
                            · skip
                              refine ⟨?_, ?_⟩
                              · skip
                                intro h -- (↑((fitF t).fst.getD (Int.toNat 0) []).length != 2) = true
                                (rw [(fit_eq (eq_of_beq ‹((fitF t).2 == 0) = true›)).1] at h; simp at h; done)
                              · skip
                                intro h -- (↑((fitF t).fst.getD (Int.toNat 0) []).length != 2) = false
                                refine ⟨?_, ?_⟩
                                · (rw [(fit_eq (eq_of_beq ‹((fitF t).2 == 0) = true›)).1]; refine And.intro ?_ ?_ <;> simp)
                                · skip
                                  refine ⟨?_, ?_⟩
                                  · skip
                                    intro h -- (↑((fitF t).fst.getD (Int.toNat 1) []).length != 1) = true
                                    (rw [(fit_eq (eq_of_beq ‹((fitF t).2 == 0) = true›)).1] at h; simp at h; done)
                                  · skip
                                    intro h -- (↑((fitF t).fst.getD (Int.toNat 1) []).length != 1) = false
                                    refine ⟨?_, ?_⟩
                                    · (rw [(fit_eq (eq_of_beq ‹((fitF t).2 == 0) = true›)).1]; refine And.intro ?_ ?_ <;> simp)
                                    · skip
                                      refine ⟨?_, ?_⟩
                                      · skip
                                        intro h -- (↑((fitF t).fst.getD (Int.toNat 2) []).length != 1) = true
                                        (rw [(fit_eq (eq_of_beq ‹((fitF t).2 == 0) = true›)).1] at h; simp at h; done)
                                      · skip
                                        intro h -- (↑((fitF t).fst.getD (Int.toNat 2) []).length != 1) = false
                                        refine ⟨(), trivial, rfl, trivial, ?_⟩
                                        exact ⟨.refl _, rfl⟩
                        · skip
                          intro h -- ((fitF t).snd == 0) = false
                          refine ⟨(), trivial, rfl, trivial, ?_⟩
                          exact ⟨.refl _, rfl⟩
                  · skip
                    intro h -- ((quotF (t, b, v).fst (t, b, v).snd.fst (t, b, v).snd.snd).snd == 0) = false
                    dsimp only at h
                    refine ⟨?_, ?_⟩
                    · skip
                      intro h -- ((fitF t).snd == 0) = true
                      refine ⟨?_, ?_⟩
                      · skip
                        intro h -- (↑(fitF t).fst.length != 3) = true
                        (rw [(fit_eq (eq_of_beq ‹((fitF t).2 == 0) = true›)).1] at h; simp at h; done)
                      · skip
                        intro h -- (↑(fitF t).fst.length != 3) = false
                        refine ⟨?_, ?_⟩
                        · (rw [(fit_eq (eq_of_beq ‹((fitF t).2 == 0) = true›)).1]; refine And.intro ?_ ?_ <;> simp)
                        · skip
                          refine ⟨?_, ?_⟩
                          · skip
                            intro h -- (↑((fitF t).fst.getD (Int.toNat 0) []).length != 2) = true
                            (rw [(fit_eq (eq_of_beq ‹((fitF t).2 == 0) = true›)).1] at h; simp at h; done)
                          · skip
                            intro h -- (↑((fitF t).fst.getD (Int.toNat 0) []).length != 2) = false
                            refine ⟨?_, ?_⟩
                            · (rw [(fit_eq (eq_of_beq ‹((fitF t).2 == 0) = true›)).1]; refine And.intro ?_ ?_ <;> simp)
                            · skip
                              refine ⟨?_, ?_⟩
                              · skip
                                intro h -- (↑((fitF t).fst.getD (Int.toNat 1) []).length != 1) = true
                                (rw [(fit_eq (eq_of_beq ‹((fitF t).2 == 0) = true›)).1] at h; simp at h; done)
                              · skip
                                intro h -- (↑((fitF t).fst.getD (Int.toNat 1) []).length != 1) = false
                                refine ⟨?_, ?_⟩
                                · (rw [(fit_eq (eq_of_beq ‹((fitF t).2 == 0) = true›)).1]; refine And.intro ?_ ?_ <;> simp)
                                · skip
                                  refine ⟨?_, ?_⟩
                                  · skip
                                    intro h -- (↑((fitF t).fst.getD (Int.toNat 2) []).length != 1) = true
                                    (rw [(fit_eq (eq_of_beq ‹((fitF t).2 == 0) = true›)).1] at h; simp at h; done)
                                  · skip
                                    intro h -- (↑((fitF t).fst.getD (Int.toNat 2) []).length != 1) = false
                                    refine ⟨(), trivial, rfl, trivial, ?_⟩
                                    exact ⟨.refl _, rfl⟩
                    · skip
                      intro h -- ((fitF t).snd == 0) = false
                      refine ⟨(), trivial, rfl, trivial, ?_⟩
                      exact ⟨.refl _, rfl⟩
            · skip
              intro h -- ((indexF (t, u17 n).fst (t, u17 n).snd).snd == 0) = false
              dsimp only at h
              refine ⟨?_, ?_⟩
              · skip
                intro h -- ((quotF (t, b, v).fst (t, b, v).snd.fst (t, b, v).snd.snd).snd == 0) = true
                dsimp only at h
                refine ⟨?_, ?_⟩
                · skip
                  intro h -- (↑(quotF (t, b, v).fst (t, b, v).snd.fst (t, b, v).snd.snd).fst.length != 2) = true
                  dsimp only at h
                  (rw [(quot_eq (eq_of_beq ‹((quotF t b v).2 == 0) = true›)).1] at h; simp [qW] at h; done)
                · skip
                  intro h -- (↑(quotF (t, b, v).fst (t, b, v).snd.fst (t, b, v).snd.snd).fst.length != 2) = false
                  dsimp only at h
                  refine ⟨((quotF t b v).1, 3), ⟨.refl _, .refl _, trivial⟩, rfl, (show (quotF t b v).1.length ≤ 1000000 from by rw [(quot_eq (eq_of_beq ‹((quotF t b v).2 == 0) = true›)).1]; exact Nat.le_of_ble_eq_true rfl), ?_⟩
                  refine ⟨?_, ?_⟩
                  · skip
                    intro h -- (!((quotF t b v).fst, 3).fst.all fun y => !↑y.length != ((quotF t b v).fst, 3).snd) = true
                    dsimp only at h
                    (rw [(quot_eq (eq_of_beq ‹((quotF t b v).2 == 0) = true›)).1] at h; simp [qW] at h; done)
                  · skip
                    intro h -- (!((quotF t b v).fst, 3).fst.all fun y => !↑y.length != ((quotF t b v).fst, 3).snd) = false
                    dsimp only at h
                    refine ⟨?_, ?_⟩
                    · skip
                      intro h -- ((fitF t).snd == 0) = true
                      refine ⟨?_, ?_⟩
                      · skip
                        intro h -- (↑(fitF t).fst.length != 3) = true
                        (rw [(fit_eq (eq_of_beq ‹((fitF t).2 == 0) = true›)).1] at h; simp at h; done)
                      · skip
                        intro h -- (↑(fitF t).fst.length != 3) = false
                        refine ⟨?_, ?_⟩
                        · (rw [(fit_eq (eq_of_beq ‹((fitF t).2 == 0) = true›)).1]; refine And.intro ?_ ?_ <;> simp)
                        · skip
                          refine ⟨?_, ?_⟩
                          · skip
                            intro h -- (↑((fitF t).fst.getD (Int.toNat 0) []).length != 2) = true
                            (rw [(fit_eq (eq_of_beq ‹((fitF t).2 == 0) = true›)).1] at h; simp at h; done)
                          · skip
                            intro h -- (↑((fitF t).fst.getD (Int.toNat 0) []).length != 2) = false
                            refine ⟨?_, ?_⟩
                            · (rw [(fit_eq (eq_of_beq ‹((fitF t).2 == 0) = true›)).1]; refine And.intro ?_ ?_ <;> simp)
                            · skip
                              refine ⟨?_, ?_⟩
                              · skip
                                intro h -- (↑((fitF t).fst.getD (Int.toNat 1) []).length != 1) = true
                                (rw [(fit_eq (eq_of_beq ‹((fitF t).2 == 0) = true›)).1] at h; simp at h; done)
                              · skip
                                intro h -- (↑((fitF t).fst.getD (Int.toNat 1) []).length != 1) = false
                                refine ⟨?_, ?_⟩
                                · (rw [(fit_eq (eq_of_beq ‹((fitF t).2 == 0) = true›)).1]; refine And.intro ?_ ?_ <;> simp)
                                · skip
                                  refine ⟨?_, ?_⟩
                                  · skip
                                    intro h -- (↑((fitF t).fst.getD (Int.toNat 2) []).length != 1) = true
                                    (rw [(fit_eq (eq_of_beq ‹((fitF t).2 == 0) = true›)).1] at h; simp at h; done)
                                  · skip
                                    intro h -- (↑((fitF t).fst.getD (Int.toNat 2) []).length != 1) = false
                                    refine ⟨(), trivial, rfl, trivial, ?_⟩
                                    exact ⟨.refl _, rfl⟩
                    · skip
                      intro h -- ((fitF t).snd == 0) = false
                      refine ⟨(), trivial, rfl, trivial, ?_⟩
                      exact ⟨.refl _, rfl⟩
              · skip
                intro h -- ((quotF (t, b, v).fst (t, b, v).snd.fst (t, b, v).snd.snd).snd == 0) = false
                dsimp only at h
                refine ⟨?_, ?_⟩
                · skip
                  intro h -- ((fitF t).snd == 0) = true
                  refine ⟨?_, ?_⟩
                  · skip
                    intro h -- (↑(fitF t).fst.length != 3) = true
                    (rw [(fit_eq (eq_of_beq ‹((fitF t).2 == 0) = true›)).1] at h; simp at h; done)
                  · skip
                    intro h -- (↑(fitF t).fst.length != 3) = false
                    refine ⟨?_, ?_⟩
                    · (rw [(fit_eq (eq_of_beq ‹((fitF t).2 == 0) = true›)).1]; refine And.intro ?_ ?_ <;> simp)
                    · skip
                      refine ⟨?_, ?_⟩
                      · skip
                        intro h -- (↑((fitF t).fst.getD (Int.toNat 0) []).length != 2) = true
                        (rw [(fit_eq (eq_of_beq ‹((fitF t).2 == 0) = true›)).1] at h; simp at h; done)
                      · skip
                        intro h -- (↑((fitF t).fst.getD (Int.toNat 0) []).length != 2) = false
                        refine ⟨?_, ?_⟩
                        · (rw [(fit_eq (eq_of_beq ‹((fitF t).2 == 0) = true›)).1]; refine And.intro ?_ ?_ <;> simp)
                        · skip
                          refine ⟨?_, ?_⟩
                          · skip
                            intro h -- (↑((fitF t).fst.getD (Int.toNat 1) []).length != 1) = true
                            (rw [(fit_eq (eq_of_beq ‹((fitF t).2 == 0) = true›)).1] at h; simp at h; done)
                          · skip
                            intro h -- (↑((fitF t).fst.getD (Int.toNat 1) []).length != 1) = false
                            refine ⟨?_, ?_⟩
                            · (rw [(fit_eq (eq_of_beq ‹((fitF t).2 == 0) = true›)).1]; refine And.intro ?_ ?_ <;> simp)
                            · skip
                              refine ⟨?_, ?_⟩
                              · skip
                                intro h -- (↑((fitF t).fst.getD (Int.toNat 2) []).length != 1) = true
                                (rw [(fit_eq (eq_of_beq ‹((fitF t).2 == 0) = true›)).1] at h; simp at h; done)
                              · skip
                                intro h -- (↑((fitF t).fst.getD (Int.toNat 2) []).length != 1) = false
                                refine ⟨(), trivial, rfl, trivial, ?_⟩
                                exact ⟨.refl _, rfl⟩
                · skip
                  intro h -- ((fitF t).snd == 0) = false
                  refine ⟨(), trivial, rfl, trivial, ?_⟩
                  exact ⟨.refl _, rfl⟩
      · skip
        intro h -- ((belowF t).snd == 0) = false
        refine ⟨?_, ?_⟩
        · skip
          intro h -- ((indexF (t, u17 n).fst (t, u17 n).snd).snd == 0) = true
          dsimp only at h
          refine ⟨?_, ?_⟩
          · skip
            intro h -- (↑(indexF (t, u17 n).fst (t, u17 n).snd).fst.length != IntKind.i64.wrap (IntKind.i64.wrap ((IntKind.u64.wrap (t, n, b, v).snd.fst).tmod 17) + 2)) = true
            dsimp only at h
            (have h := (show (((indexF t (u17 n)).1.length : Int) != IntKind.i64.wrap (u17 n + 2)) = true from h); rw [(index_eq (eq_of_beq ‹((indexF t (u17 n)).2 == 0) = true›)).1, hw] at h; simp [idxL_len] at h; omega)
          · skip
            intro h -- (↑(indexF (t, u17 n).fst (t, u17 n).snd).fst.length != IntKind.i64.wrap (IntKind.i64.wrap ((IntKind.u64.wrap (t, n, b, v).snd.fst).tmod 17) + 2)) = false
            dsimp only at h
            refine ⟨((indexF t (u17 n)).1, 1), ⟨.refl _, .refl _, trivial⟩, rfl, (show (indexF t (u17 n)).1.length ≤ 1000000 from by rw [(index_eq (eq_of_beq ‹((indexF t (u17 n)).2 == 0) = true›)).1]; simp [idxL_len]; omega), ?_⟩
            refine ⟨?_, ?_⟩
            · skip
              intro h -- (!((indexF t (u17 n)).fst, 1).fst.all fun y => !↑y.length != ((indexF t (u17 n)).fst, 1).snd) = true
              dsimp only at h
              (rw [(index_eq (eq_of_beq ‹((indexF t (u17 n)).2 == 0) = true›)).1] at h; simp [idxL_len, idxL_all] at h; done)
            · skip
              intro h -- (!((indexF t (u17 n)).fst, 1).fst.all fun y => !↑y.length != ((indexF t (u17 n)).fst, 1).snd) = false
              dsimp only at h
              refine ⟨?_, ?_⟩
              · skip
                intro h -- ((quotF (t, b, v).fst (t, b, v).snd.fst (t, b, v).snd.snd).snd == 0) = true
                dsimp only at h
                refine ⟨?_, ?_⟩
                · skip
                  intro h -- (↑(quotF (t, b, v).fst (t, b, v).snd.fst (t, b, v).snd.snd).fst.length != 2) = true
                  dsimp only at h
                  (rw [(quot_eq (eq_of_beq ‹((quotF t b v).2 == 0) = true›)).1] at h; simp [qW] at h; done)
                · skip
                  intro h -- (↑(quotF (t, b, v).fst (t, b, v).snd.fst (t, b, v).snd.snd).fst.length != 2) = false
                  dsimp only at h
                  refine ⟨((quotF t b v).1, 3), ⟨.refl _, .refl _, trivial⟩, rfl, (show (quotF t b v).1.length ≤ 1000000 from by rw [(quot_eq (eq_of_beq ‹((quotF t b v).2 == 0) = true›)).1]; exact Nat.le_of_ble_eq_true rfl), ?_⟩
                  refine ⟨?_, ?_⟩
                  · skip
                    intro h -- (!((quotF t b v).fst, 3).fst.all fun y => !↑y.length != ((quotF t b v).fst, 3).snd) = true
                    dsimp only at h
                    (rw [(quot_eq (eq_of_beq ‹((quotF t b v).2 == 0) = true›)).1] at h; simp [qW] at h; done)
                  · skip
                    intro h -- (!((quotF t b v).fst, 3).fst.all fun y => !↑y.length != ((quotF t b v).fst, 3).snd) = false
                    dsimp only at h
                    refine ⟨?_, ?_⟩
                    · skip
                      intro h -- ((fitF t).snd == 0) = true
                      refine ⟨?_, ?_⟩
                      · skip
                        intro h -- (↑(fitF t).fst.length != 3) = true
                        (rw [(fit_eq (eq_of_beq ‹((fitF t).2 == 0) = true›)).1] at h; simp at h; done)
                      · skip
                        intro h -- (↑(fitF t).fst.length != 3) = false
                        refine ⟨?_, ?_⟩
                        · (rw [(fit_eq (eq_of_beq ‹((fitF t).2 == 0) = true›)).1]; refine And.intro ?_ ?_ <;> simp)
                        · skip
                          refine ⟨?_, ?_⟩
                          · skip
                            intro h -- (↑((fitF t).fst.getD (Int.toNat 0) []).length != 2) = true
                            (rw [(fit_eq (eq_of_beq ‹((fitF t).2 == 0) = true›)).1] at h; simp at h; done)
                          · skip
                            intro h -- (↑((fitF t).fst.getD (Int.toNat 0) []).length != 2) = false
                            refine ⟨?_, ?_⟩
                            · (rw [(fit_eq (eq_of_beq ‹((fitF t).2 == 0) = true›)).1]; refine And.intro ?_ ?_ <;> simp)
                            · skip
                              refine ⟨?_, ?_⟩
                              · skip
                                intro h -- (↑((fitF t).fst.getD (Int.toNat 1) []).length != 1) = true
                                (rw [(fit_eq (eq_of_beq ‹((fitF t).2 == 0) = true›)).1] at h; simp at h; done)
                              · skip
                                intro h -- (↑((fitF t).fst.getD (Int.toNat 1) []).length != 1) = false
                                refine ⟨?_, ?_⟩
                                · (rw [(fit_eq (eq_of_beq ‹((fitF t).2 == 0) = true›)).1]; refine And.intro ?_ ?_ <;> simp)
                                · skip
                                  refine ⟨?_, ?_⟩
                                  · skip
                                    intro h -- (↑((fitF t).fst.getD (Int.toNat 2) []).length != 1) = true
                                    (rw [(fit_eq (eq_of_beq ‹((fitF t).2 == 0) = true›)).1] at h; simp at h; done)
                                  · skip
                                    intro h -- (↑((fitF t).fst.getD (Int.toNat 2) []).length != 1) = false
                                    refine ⟨(), trivial, rfl, trivial, ?_⟩
                                    exact ⟨.refl _, rfl⟩
                    · skip
                      intro h -- ((fitF t).snd == 0) = false
                      refine ⟨(), trivial, rfl, trivial, ?_⟩
                      exact ⟨.refl _, rfl⟩
              · skip
                intro h -- ((quotF (t, b, v).fst (t, b, v).snd.fst (t, b, v).snd.snd).snd == 0) = false
                dsimp only at h
                refine ⟨?_, ?_⟩
                · skip
                  intro h -- ((fitF t).snd == 0) = true
                  refine ⟨?_, ?_⟩
                  · skip
                    intro h -- (↑(fitF t).fst.length != 3) = true
                    (rw [(fit_eq (eq_of_beq ‹((fitF t).2 == 0) = true›)).1] at h; simp at h; done)
                  · skip
                    intro h -- (↑(fitF t).fst.length != 3) = false
                    refine ⟨?_, ?_⟩
                    · (rw [(fit_eq (eq_of_beq ‹((fitF t).2 == 0) = true›)).1]; refine And.intro ?_ ?_ <;> simp)
                    · skip
                      refine ⟨?_, ?_⟩
                      · skip
                        intro h -- (↑((fitF t).fst.getD (Int.toNat 0) []).length != 2) = true
                        (rw [(fit_eq (eq_of_beq ‹((fitF t).2 == 0) = true›)).1] at h; simp at h; done)
                      · skip
                        intro h -- (↑((fitF t).fst.getD (Int.toNat 0) []).length != 2) = false
                        refine ⟨?_, ?_⟩
                        · (rw [(fit_eq (eq_of_beq ‹((fitF t).2 == 0) = true›)).1]; refine And.intro ?_ ?_ <;> simp)
                        · skip
                          refine ⟨?_, ?_⟩
                          · skip
                            intro h -- (↑((fitF t).fst.getD (Int.toNat 1) []).length != 1) = true
                            (rw [(fit_eq (eq_of_beq ‹((fitF t).2 == 0) = true›)).1] at h; simp at h; done)
                          · skip
                            intro h -- (↑((fitF t).fst.getD (Int.toNat 1) []).length != 1) = false
                            refine ⟨?_, ?_⟩
                            · (rw [(fit_eq (eq_of_beq ‹((fitF t).2 == 0) = true›)).1]; refine And.intro ?_ ?_ <;> simp)
                            · skip
                              refine ⟨?_, ?_⟩
                              · skip
                                intro h -- (↑((fitF t).fst.getD (Int.toNat 2) []).length != 1) = true
                                (rw [(fit_eq (eq_of_beq ‹((fitF t).2 == 0) = true›)).1] at h; simp at h; done)
                              · skip
                                intro h -- (↑((fitF t).fst.getD (Int.toNat 2) []).length != 1) = false
                                refine ⟨(), trivial, rfl, trivial, ?_⟩
                                exact ⟨.refl _, rfl⟩
                · skip
                  intro h -- ((fitF t).snd == 0) = false
                  refine ⟨(), trivial, rfl, trivial, ?_⟩
                  exact ⟨.refl _, rfl⟩
        · skip
          intro h -- ((indexF (t, u17 n).fst (t, u17 n).snd).snd == 0) = false
          dsimp only at h
          refine ⟨?_, ?_⟩
          · skip
            intro h -- ((quotF (t, b, v).fst (t, b, v).snd.fst (t, b, v).snd.snd).snd == 0) = true
            dsimp only at h
            refine ⟨?_, ?_⟩
            · skip
              intro h -- (↑(quotF (t, b, v).fst (t, b, v).snd.fst (t, b, v).snd.snd).fst.length != 2) = true
              dsimp only at h
              (rw [(quot_eq (eq_of_beq ‹((quotF t b v).2 == 0) = true›)).1] at h; simp [qW] at h; done)
            · skip
              intro h -- (↑(quotF (t, b, v).fst (t, b, v).snd.fst (t, b, v).snd.snd).fst.length != 2) = false
              dsimp only at h
              refine ⟨((quotF t b v).1, 3), ⟨.refl _, .refl _, trivial⟩, rfl, (show (quotF t b v).1.length ≤ 1000000 from by rw [(quot_eq (eq_of_beq ‹((quotF t b v).2 == 0) = true›)).1]; exact Nat.le_of_ble_eq_true rfl), ?_⟩
              refine ⟨?_, ?_⟩
              · skip
                intro h -- (!((quotF t b v).fst, 3).fst.all fun y => !↑y.length != ((quotF t b v).fst, 3).snd) = true
                dsimp only at h
                (rw [(quot_eq (eq_of_beq ‹((quotF t b v).2 == 0) = true›)).1] at h; simp [qW] at h; done)
              · skip
                intro h -- (!((quotF t b v).fst, 3).fst.all fun y => !↑y.length != ((quotF t b v).fst, 3).snd) = false
                dsimp only at h
                refine ⟨?_, ?_⟩
                · skip
                  intro h -- ((fitF t).snd == 0) = true
                  refine ⟨?_, ?_⟩
                  · skip
                    intro h -- (↑(fitF t).fst.length != 3) = true
                    (rw [(fit_eq (eq_of_beq ‹((fitF t).2 == 0) = true›)).1] at h; simp at h; done)
                  · skip
                    intro h -- (↑(fitF t).fst.length != 3) = false
                    refine ⟨?_, ?_⟩
                    · (rw [(fit_eq (eq_of_beq ‹((fitF t).2 == 0) = true›)).1]; refine And.intro ?_ ?_ <;> simp)
                    · skip
                      refine ⟨?_, ?_⟩
                      · skip
                        intro h -- (↑((fitF t).fst.getD (Int.toNat 0) []).length != 2) = true
                        (rw [(fit_eq (eq_of_beq ‹((fitF t).2 == 0) = true›)).1] at h; simp at h; done)
                      · skip
                        intro h -- (↑((fitF t).fst.getD (Int.toNat 0) []).length != 2) = false
                        refine ⟨?_, ?_⟩
                        · (rw [(fit_eq (eq_of_beq ‹((fitF t).2 == 0) = true›)).1]; refine And.intro ?_ ?_ <;> simp)
                        · skip
                          refine ⟨?_, ?_⟩
                          · skip
                            intro h -- (↑((fitF t).fst.getD (Int.toNat 1) []).length != 1) = true
                            (rw [(fit_eq (eq_of_beq ‹((fitF t).2 == 0) = true›)).1] at h; simp at h; done)
                          · skip
                            intro h -- (↑((fitF t).fst.getD (Int.toNat 1) []).length != 1) = false
                            refine ⟨?_, ?_⟩
                            · (rw [(fit_eq (eq_of_beq ‹((fitF t).2 == 0) = true›)).1]; refine And.intro ?_ ?_ <;> simp)
                            · skip
                              refine ⟨?_, ?_⟩
                              · skip
                                intro h -- (↑((fitF t).fst.getD (Int.toNat 2) []).length != 1) = true
                                (rw [(fit_eq (eq_of_beq ‹((fitF t).2 == 0) = true›)).1] at h; simp at h; done)
                              · skip
                                intro h -- (↑((fitF t).fst.getD (Int.toNat 2) []).length != 1) = false
                                refine ⟨(), trivial, rfl, trivial, ?_⟩
                                exact ⟨.refl _, rfl⟩
                · skip
                  intro h -- ((fitF t).snd == 0) = false
                  refine ⟨(), trivial, rfl, trivial, ?_⟩
                  exact ⟨.refl _, rfl⟩
          · skip
            intro h -- ((quotF (t, b, v).fst (t, b, v).snd.fst (t, b, v).snd.snd).snd == 0) = false
            dsimp only at h
            refine ⟨?_, ?_⟩
            · skip
              intro h -- ((fitF t).snd == 0) = true
              refine ⟨?_, ?_⟩
              · skip
                intro h -- (↑(fitF t).fst.length != 3) = true
                (rw [(fit_eq (eq_of_beq ‹((fitF t).2 == 0) = true›)).1] at h; simp at h; done)
              · skip
                intro h -- (↑(fitF t).fst.length != 3) = false
                refine ⟨?_, ?_⟩
                · (rw [(fit_eq (eq_of_beq ‹((fitF t).2 == 0) = true›)).1]; refine And.intro ?_ ?_ <;> simp)
                · skip
                  refine ⟨?_, ?_⟩
                  · skip
                    intro h -- (↑((fitF t).fst.getD (Int.toNat 0) []).length != 2) = true
                    (rw [(fit_eq (eq_of_beq ‹((fitF t).2 == 0) = true›)).1] at h; simp at h; done)
                  · skip
                    intro h -- (↑((fitF t).fst.getD (Int.toNat 0) []).length != 2) = false
                    refine ⟨?_, ?_⟩
                    · (rw [(fit_eq (eq_of_beq ‹((fitF t).2 == 0) = true›)).1]; refine And.intro ?_ ?_ <;> simp)
                    · skip
                      refine ⟨?_, ?_⟩
                      · skip
                        intro h -- (↑((fitF t).fst.getD (Int.toNat 1) []).length != 1) = true
                        (rw [(fit_eq (eq_of_beq ‹((fitF t).2 == 0) = true›)).1] at h; simp at h; done)
                      · skip
                        intro h -- (↑((fitF t).fst.getD (Int.toNat 1) []).length != 1) = false
                        refine ⟨?_, ?_⟩
                        · (rw [(fit_eq (eq_of_beq ‹((fitF t).2 == 0) = true›)).1]; refine And.intro ?_ ?_ <;> simp)
                        · skip
                          refine ⟨?_, ?_⟩
                          · skip
                            intro h -- (↑((fitF t).fst.getD (Int.toNat 2) []).length != 1) = true
                            (rw [(fit_eq (eq_of_beq ‹((fitF t).2 == 0) = true›)).1] at h; simp at h; done)
                          · skip
                            intro h -- (↑((fitF t).fst.getD (Int.toNat 2) []).length != 1) = false
                            refine ⟨(), trivial, rfl, trivial, ?_⟩
                            exact ⟨.refl _, rfl⟩
            · skip
              intro h -- ((fitF t).snd == 0) = false
              refine ⟨(), trivial, rfl, trivial, ?_⟩
              exact ⟨.refl _, rfl⟩
end Go.Proofs.Ytndndemnjmdanaa.Ax
