/- Layer fork by the logic: the ways. -/
import Derived.Test.YtndndemnjmdanaaKa
set_option linter.unusedVariables false
set_option linter.unusedSimpArgs false
namespace Go.Proofs.Ytndndemnjmdanaa.Ax
open Go Go.RowKit
def lcF (t : Int × List (Int × Int)) (n : Int) : (Int × List (Int × Int)) × Bool := ((sum3 t (-1) n).1, false)
def mcF (t : Int × List (Int × Int)) (n : Int) : (Int × List (Int × Int)) × Bool := ((sum3 t 1 (IntKind.i64.wrap (0 - n))).1, false)
def icF (t : Int × List (Int × Int)) (n : Int) : (Int × List (Int × Int)) × Bool := ((sum3 t 1 (IntKind.i64.wrap (0 - n))).1, true)
def lcK (t : Int × List (Int × Int)) (n e : Int) : Int := roomE e (sumOk t (-1) n)
def mcK (t : Int × List (Int × Int)) (n e : Int) : Int := roomE e (sumOk t 1 (IntKind.i64.wrap (0 - n)))
def signF (t : Int × List (Int × Int)) := if right t then toldF (lcK t 1 (mcK t 0 (mcK t (-1) 0))) [[mcF t (-1)], [icF t 0], [lcF t 1]] else ([], 1)
def belowF (t : Int × List (Int × Int)) := if right t then toldF (lcK t 0 (mcK t (-1) 0)) [[mcF t (-1)], [lcF t 0]] else ([], 1)
def fitF (t : Int × List (Int × Int)) := if right t then toldF (mcK t (-2147483649) (lcK t 2147483648 (lcK t (-2147483648) (mcK t 2147483647 0)))) [[mcF t 2147483647, lcF t (-2147483648)], [lcF t 2147483648], [mcF t (-2147483649)]] else ([], 1)
def fk_Sign : Ctr := { A := Int × List (Int × Int), enc := fun t => [termS t], dom := fun _ => True, res := fun t _ => .tup [waysR (signF t).1, I (signF t).2] }
def fk_Below : Ctr := { A := Int × List (Int × Int), enc := fun t => [termS t], dom := fun _ => True, res := fun t _ => .tup [waysR (belowF t).1, I (belowF t).2] }
def fk_Fit : Ctr := { A := Int × List (Int × Int), enc := fun t => [termS t], dom := fun _ => True, res := fun t _ => .tup [waysR (fitF t).1, I (fitF t).2] }
theorem ckY {t : Int × List (Int × Int)} (h : (checkF t != 0) = true) : ¬ right t := fun r => by simp [checkF, if_pos r] at h
theorem ckN {t : Int × List (Int × Int)} (h : (checkF t != 0) = false) : right t := Classical.byContradiction fun r => by simp [checkF, if_neg r] at h
set_option maxRecDepth 100000 in
set_option maxHeartbeats 4000000 in
theorem fk_Sign_ok : CtrSound Try.prog 9 fk_Sign :=
  ctr_of_ax (env_okB tys_ok (eqs := []) trivial (cs := [(26, term_Check), (28, fk_one)]) ⟨term_Check_ok, fk_one_ok, trivial⟩ (bs := [(29, mk_most), (31, mk_least), (30, mk_is), (27, mk_told)]) ⟨mk_most_ok, mk_least_ok, mk_is_ok, mk_told_ok, trivial⟩ (qu := [1])) mixed _ Try.func9 (by kernel_rfl) rfl (fun _ _ => Nat.le_of_ble_eq_true rfl) fun (t : Int × List (Int × Int)) id _ => by
    refine ⟨t, ⟨.refl _, trivial⟩, rfl, trivial, fun h => ?_, fun h => ?_⟩
    · have e : signF t = ([], 1) := if_neg (ckY h)
      exact ⟨.tup2 (by rw [e]; exact .nil ..) (.int (by rw [e])), rfl⟩
    have e : signF t = toldF (lcK t 1 (mcK t 0 (mcK t (-1) 0))) [[mcF t (-1)], [icF t 0], [lcF t 1]] := if_pos (ckN h)
    refine ⟨by kernel_rfl, ?_⟩
    refine ⟨by kernel_rfl, ?_⟩
    refine ⟨(t, -1, 0), ⟨.refl _, .refl _, .refl _, trivial⟩, ⟨⟨rfl, .refl _, trivial⟩, trivial⟩, trivial, ?_⟩
    refine ⟨mcF t (-1), ⟨.refl _, trivial⟩, rfl, trivial, ?_⟩
    refine ⟨by kernel_rfl, ?_⟩
    refine ⟨(t, 0, mcK t (-1) 0), ⟨.refl _, .refl _, .refl _, trivial⟩, ⟨⟨rfl, .refl _, trivial⟩, trivial⟩, trivial, ?_⟩
    refine ⟨icF t 0, ⟨.refl _, trivial⟩, rfl, trivial, ?_⟩
    refine ⟨by kernel_rfl, ?_⟩
    refine ⟨(t, 1, mcK t 0 (mcK t (-1) 0)), ⟨.refl _, .refl _, .refl _, trivial⟩, ⟨⟨rfl, .refl _, trivial⟩, trivial⟩, trivial, ?_⟩
    refine ⟨lcF t 1, ⟨.refl _, trivial⟩, rfl, trivial, ?_⟩
    refine ⟨List ((Int × List (Int × Int)) × Bool), wayC, [], [[mcF t (-1)], [icF t 0], [lcF t 1]], ⟨rfl, fun _ => rfl⟩, ⟨.own .., .own .., .own .., trivial⟩, rfl, ?_⟩
    refine ⟨by kernel_rfl, ?_⟩
    refine ⟨([[mcF t (-1)], [icF t 0], [lcF t 1]], (lcK t 1 (mcK t 0 (mcK t (-1) 0)))), ⟨.refl _, .refl _, trivial⟩, ⟨⟨rfl, .refl _, trivial⟩, trivial⟩, trivial, ?_⟩
    exact ⟨.tup2 (.rowEq (by rw [e])) (.int (by rw [e])), rfl⟩
set_option maxRecDepth 100000 in
set_option maxHeartbeats 4000000 in
theorem fk_Below_ok : CtrSound Try.prog 10 fk_Below :=
  ctr_of_ax (env_okB tys_ok (eqs := []) trivial (cs := [(26, term_Check), (28, fk_one)]) ⟨term_Check_ok, fk_one_ok, trivial⟩ (bs := [(29, mk_most), (31, mk_least), (30, mk_is), (27, mk_told)]) ⟨mk_most_ok, mk_least_ok, mk_is_ok, mk_told_ok, trivial⟩ (qu := [1])) mixed _ Try.func10 (by kernel_rfl) rfl (fun _ _ => Nat.le_of_ble_eq_true rfl) fun (t : Int × List (Int × Int)) id _ => by
    refine ⟨t, ⟨.refl _, trivial⟩, rfl, trivial, fun h => ?_, fun h => ?_⟩
    · have e : belowF t = ([], 1) := if_neg (ckY h)
      exact ⟨.tup2 (by rw [e]; exact .nil ..) (.int (by rw [e])), rfl⟩
    have e : belowF t = toldF (lcK t 0 (mcK t (-1) 0)) [[mcF t (-1)], [lcF t 0]] := if_pos (ckN h)
    refine ⟨?_, ?_⟩
    · kernel_rfl
    · skip
      refine ⟨?_, ?_⟩
      · kernel_rfl
      · skip
        refine ⟨(t, -1, 0), ⟨.refl _, .refl _, .refl _, trivial⟩, ⟨⟨rfl, .refl _, trivial⟩, trivial⟩, trivial, ?_⟩
        refine ⟨mcF t (-1), ⟨.refl _, trivial⟩, rfl, trivial, ?_⟩
        refine ⟨?_, ?_⟩
        · kernel_rfl
        · skip
          refine ⟨(t, 0, mcK t (-1) 0), ⟨.refl _, .refl _, .refl _, trivial⟩, ⟨⟨rfl, .refl _, trivial⟩, trivial⟩, trivial, ?_⟩
          refine ⟨lcF t 0, ⟨.refl _, trivial⟩, rfl, trivial, ?_⟩
          refine ⟨List ((Int × List (Int × Int)) × Bool), wayC, [], [[mcF t (-1)], [lcF t 0]], ⟨rfl, fun _ => rfl⟩, ⟨.own .., .own .., trivial⟩, rfl, ?_⟩
          refine ⟨?_, ?_⟩
          · kernel_rfl
          · skip
            refine ⟨([[mcF t (-1)], [lcF t 0]], (lcK t 0 (mcK t (-1) 0))), ⟨.refl _, .refl _, trivial⟩, ⟨⟨rfl, .refl _, trivial⟩, trivial⟩, trivial, ?_⟩
            exact ⟨.tup2 (.rowEq (by rw [e])) (.int (by rw [e])), rfl⟩
set_option maxRecDepth 100000 in
set_option maxHeartbeats 4000000 in
theorem fk_Fit_ok : CtrSound Try.prog 11 fk_Fit :=
  ctr_of_ax (env_okB tys_ok (eqs := []) trivial (cs := [(26, term_Check), (28, fk_one)]) ⟨term_Check_ok, fk_one_ok, trivial⟩ (bs := [(29, mk_most), (31, mk_least), (30, mk_is), (27, mk_told)]) ⟨mk_most_ok, mk_least_ok, mk_is_ok, mk_told_ok, trivial⟩ (qu := [1])) mixed _ Try.func11 (by kernel_rfl) rfl (fun _ _ => Nat.le_of_ble_eq_true rfl) fun (t : Int × List (Int × Int)) id _ => by
    refine ⟨t, ⟨.refl _, trivial⟩, rfl, trivial, fun h => ?_, fun h => ?_⟩
    · have e : fitF t = ([], 1) := if_neg (ckY h)
      exact ⟨.tup2 (by rw [e]; exact .nil ..) (.int (by rw [e])), rfl⟩
    have e : fitF t = toldF (mcK t (-2147483649) (lcK t 2147483648 (lcK t (-2147483648) (mcK t 2147483647 0)))) [[mcF t 2147483647, lcF t (-2147483648)], [lcF t 2147483648], [mcF t (-2147483649)]] := if_pos (ckN h)
    refine ⟨?_, ?_⟩
    · kernel_rfl
    · skip
      refine ⟨?_, ?_⟩
      · kernel_rfl
      · skip
        refine ⟨(t, 2147483647, 0), ⟨.refl _, .refl _, .refl _, trivial⟩, ⟨⟨rfl, .refl _, trivial⟩, trivial⟩, trivial, ?_⟩
        refine ⟨?_, ?_⟩
        · kernel_rfl
        · skip
          refine ⟨(t, -2147483648, mcK t 2147483647 0), ⟨.refl _, .refl _, .refl _, trivial⟩, ⟨⟨rfl, .refl _, trivial⟩, trivial⟩, trivial, ?_⟩
          refine ⟨(Int × List (Int × Int)) × Bool, consC, ((0, []), false), [mcF t 2147483647, lcF t (-2147483648)], ⟨rfl, fun _ => rfl⟩, ⟨.refl _, .refl _, .refl _, .refl _, .refl _, .refl _, trivial⟩, rfl, ?_⟩
          refine ⟨?_, ?_⟩
          · kernel_rfl
          · skip
            refine ⟨(t, 2147483648, lcK t (-2147483648) (mcK t 2147483647 0)), ⟨.refl _, .refl _, .refl _, trivial⟩, ⟨⟨rfl, .refl _, trivial⟩, trivial⟩, trivial, ?_⟩
            refine ⟨lcF t 2147483648, ⟨.refl _, trivial⟩, rfl, trivial, ?_⟩
            refine ⟨?_, ?_⟩
            · kernel_rfl
            · skip
              refine ⟨(t, -2147483649, lcK t 2147483648 (lcK t (-2147483648) (mcK t 2147483647 0))), ⟨.refl _, .refl _, .refl _, trivial⟩, ⟨⟨rfl, .refl _, trivial⟩, trivial⟩, trivial, ?_⟩
              refine ⟨mcF t (-2147483649), ⟨.refl _, trivial⟩, rfl, trivial, ?_⟩
              refine ⟨List ((Int × List (Int × Int)) × Bool), wayC, [], [[mcF t 2147483647, lcF t (-2147483648)], [lcF t 2147483648], [mcF t (-2147483649)]], ⟨rfl, fun _ => rfl⟩, ⟨.own .., .own .., .own .., trivial⟩, rfl, ?_⟩
              refine ⟨?_, ?_⟩
              · kernel_rfl
              · skip
                refine ⟨([[mcF t 2147483647, lcF t (-2147483648)], [lcF t 2147483648], [mcF t (-2147483649)]], (mcK t (-2147483649) (lcK t 2147483648 (lcK t (-2147483648) (mcK t 2147483647 0))))), ⟨.refl _, .refl _, trivial⟩, ⟨⟨rfl, .refl _, trivial⟩, trivial⟩, trivial, ?_⟩
                exact ⟨.tup2 (.rowEq (by rw [e])) (.int (by rw [e])), rfl⟩
end Go.Proofs.Ytndndemnjmdanaa.Ax
