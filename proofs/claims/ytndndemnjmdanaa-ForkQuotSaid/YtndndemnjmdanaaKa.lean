/- Layer fork by the logic: the maker of constraints. -/
import Derived.Test.YtndndemnjmdanaaNm
set_option linter.unusedVariables false
set_option linter.unusedSimpArgs false
namespace Go.Proofs.Ytndndemnjmdanaa.Ax
open Go Go.RowKit
abbrev TT := Int × List (Int × Int)
abbrev CK := (Int × List (Int × Int)) × Bool
def sum3 (t : Int × List (Int × Int)) (k n : Int) : (Int × List (Int × Int)) × Int := addF (scaleF t k).1 (constF n).1
def sumOk (t : Int × List (Int × Int)) (k n : Int) : Bool := (scaleF t k).2 == 0 && ((constF n).2 == 0 && (sum3 t k n).2 == 0)
def roomE (e : Int) (ok : Bool) : Int := if ok then e else 12
def mk_sum : CtrB := { A := (Int × List (Int × Int)) × Int × Int × Int, enc := fun x => [.box 1000 0, termS x.1, I x.2.1, I x.2.2.1], pre := fun x => [[I x.2.2.2]], dom := fun _ => True, res := fun x _ => termS (sum3 x.1 x.2.1 x.2.2.1).1, post := fun x _ => [[I (roomE x.2.2.2 (sumOk x.1 x.2.1 x.2.2.1))]] }
set_option maxRecDepth 100000 in
set_option maxHeartbeats 4000000 in
theorem mk_sum_ok : CtrBSound Try.prog 43 mk_sum :=
  ctrB_of_ax2 mixed _ Try.func43 (by kernel_rfl) rfl (fun _ _ => ⟨Nat.le_of_ble_eq_true rfl, Nat.le_of_ble_eq_true rfl⟩) fun ((t, k, n, e) : (Int × List (Int × Int)) × Int × Int × Int) id _ => by
    refine ⟨_, ⟨env_okB tys_ok (eqs := []) trivial (cs := [(33, term_Scale), (49, term_Const), (34, term_Add)]) ⟨term_Scale_ok, term_Const_ok, term_Add_ok, trivial⟩ (bs := []) trivial (vec := []), fun _ h => h⟩, ?_⟩
    have r0 : ((scaleF t k).2 != 0) = true → roomE e (sumOk t k n) = 12 := fun h => if_neg (by unfold sumOk; simp at h ⊢; intro c; exact absurd c h)
    have r1 : ((constF n).2 != 0) = true → roomE e (sumOk t k n) = 12 := fun h => if_neg (by unfold sumOk; simp at h ⊢; intro _ c; exact absurd c h)
    have r2 : ((sum3 t k n).2 != 0) = true → roomE e (sumOk t k n) = 12 := fun h => if_neg (by unfold sumOk; simp at h ⊢; intro _ _ c; exact absurd c h)
    have r3 : ((scaleF t k).2 != 0) = false → ((constF n).2 != 0) = false → ((sum3 t k n).2 != 0) = false → roomE e (sumOk t k n) = e := fun h1 h2 h3 => if_pos (by unfold sumOk; simp at h1 h2 h3 ⊢; exact ⟨h1, h2, h3⟩)
    refine ⟨(t, k), ⟨.refl _, .refl _, trivial⟩, rfl, trivial, ?_⟩
    refine ⟨n, ⟨.refl _, trivial⟩, rfl, trivial, ?_⟩
    refine ⟨((scaleF t k).1, (constF n).1), ⟨.agg2 (.refl _) (.own ..), .agg2 (.refl _) (.own ..), trivial⟩, rfl, trivial, ?_⟩
    refine ⟨?_, ?_⟩
    · skip
      intro h -- ((scaleF (t, k).fst (t, k).snd).snd != 0) = true
      dsimp only at h
      exact ⟨.refl _, ⟨rfl, .int (r0 h).symm, trivial⟩, trivial⟩
    · skip
      intro h -- ((scaleF (t, k).fst (t, k).snd).snd != 0) = false
      dsimp only at h
      refine ⟨?_, ?_⟩
      · skip
        intro h -- ((constF n).snd != 0) = true
        exact ⟨.refl _, ⟨rfl, .int (r1 h).symm, trivial⟩, trivial⟩
      · skip
        intro h -- ((constF n).snd != 0) = false
        refine ⟨?_, ?_⟩
        · skip
          intro h -- ((addF ((scaleF t k).fst, (constF n).fst).fst ((scaleF t k).fst, (constF n).fst).snd).snd != 0) = true
          dsimp only at h
          exact ⟨.refl _, ⟨rfl, .int (r2 h).symm, trivial⟩, trivial⟩
        · skip
          intro h -- ((addF ((scaleF t k).fst, (constF n).fst).fst ((scaleF t k).fst, (constF n).fst).snd).snd != 0) = false
          dsimp only at h
          exact ⟨.refl _, ⟨rfl, .int (r3 ‹_› ‹_› h).symm, trivial⟩, trivial⟩
def mk_least : CtrB := { A := (Int × List (Int × Int)) × Int × Int, enc := fun x => [.box 1000 0, termS x.1, I x.2.1], pre := fun x => [[I x.2.2]], dom := fun _ => True, res := fun x _ => consS ((sum3 x.1 (-1) x.2.1).1, false), post := fun x _ => [[I (roomE x.2.2 (sumOk x.1 (-1) x.2.1))]] }
set_option maxRecDepth 100000 in
theorem mk_least_ok : CtrBSound Try.prog 31 mk_least :=
  ctrB_of_ax2 mixed _ Try.func31 (by kernel_rfl) rfl (fun _ _ => ⟨Nat.le_of_ble_eq_true rfl, Nat.le_of_ble_eq_true rfl⟩) fun ((t, n, e) : (Int × List (Int × Int)) × Int × Int) id _ => by
    refine ⟨_, ⟨env_okB tys_ok (eqs := []) trivial (cs := []) trivial (bs := [(43, mk_sum)]) ⟨mk_sum_ok, trivial⟩ (vec := []), fun _ h => h⟩, ?_⟩
    refine ⟨?_, ?_⟩
    · kernel_rfl
    · skip
      refine ⟨(t, -1, n, e), ⟨.refl _, .refl _, .refl _, .refl _, trivial⟩, ⟨⟨rfl, .refl _, trivial⟩, trivial⟩, trivial, ?_⟩
      exact ⟨.refl _, ⟨rfl, .refl _, trivial⟩, trivial⟩

def mk_most : CtrB := { A := (Int × List (Int × Int)) × Int × Int, enc := fun x => [.box 1000 0, termS x.1, I x.2.1], pre := fun x => [[I x.2.2]], dom := fun _ => True, res := fun x _ => consS ((sum3 x.1 (1) (IntKind.i64.wrap (0 - x.2.1))).1, false), post := fun x _ => [[I (roomE x.2.2 (sumOk x.1 (1) (IntKind.i64.wrap (0 - x.2.1))))]] }
set_option maxRecDepth 100000 in
theorem mk_most_ok : CtrBSound Try.prog 29 mk_most :=
  ctrB_of_ax2 mixed _ Try.func29 (by kernel_rfl) rfl (fun _ _ => ⟨Nat.le_of_ble_eq_true rfl, Nat.le_of_ble_eq_true rfl⟩) fun ((t, n, e) : (Int × List (Int × Int)) × Int × Int) id _ => by
    refine ⟨_, ⟨env_okB tys_ok (eqs := []) trivial (cs := []) trivial (bs := [(43, mk_sum)]) ⟨mk_sum_ok, trivial⟩ (vec := []), fun _ h => h⟩, ?_⟩
    refine ⟨?_, ?_⟩
    · kernel_rfl
    · skip
      refine ⟨(t, 1, (IntKind.i64.wrap (0 - n)), e), ⟨.refl _, .refl _, .refl _, .refl _, trivial⟩, ⟨⟨rfl, .refl _, trivial⟩, trivial⟩, trivial, ?_⟩
      exact ⟨.refl _, ⟨rfl, .refl _, trivial⟩, trivial⟩

def mk_is : CtrB := { A := (Int × List (Int × Int)) × Int × Int, enc := fun x => [.box 1000 0, termS x.1, I x.2.1], pre := fun x => [[I x.2.2]], dom := fun _ => True, res := fun x _ => consS ((sum3 x.1 (1) (IntKind.i64.wrap (0 - x.2.1))).1, true), post := fun x _ => [[I (roomE x.2.2 (sumOk x.1 (1) (IntKind.i64.wrap (0 - x.2.1))))]] }
set_option maxRecDepth 100000 in
theorem mk_is_ok : CtrBSound Try.prog 30 mk_is :=
  ctrB_of_ax2 mixed _ Try.func30 (by kernel_rfl) rfl (fun _ _ => ⟨Nat.le_of_ble_eq_true rfl, Nat.le_of_ble_eq_true rfl⟩) fun ((t, n, e) : (Int × List (Int × Int)) × Int × Int) id _ => by
    refine ⟨_, ⟨env_okB tys_ok (eqs := []) trivial (cs := []) trivial (bs := [(43, mk_sum)]) ⟨mk_sum_ok, trivial⟩ (vec := []), fun _ h => h⟩, ?_⟩
    refine ⟨?_, ?_⟩
    · kernel_rfl
    · skip
      refine ⟨(t, 1, (IntKind.i64.wrap (0 - n)), e), ⟨.refl _, .refl _, .refl _, .refl _, trivial⟩, ⟨⟨rfl, .refl _, trivial⟩, trivial⟩, trivial, ?_⟩
      exact ⟨.agg3 (.refl _) (.refl _) (.btt rfl), ⟨rfl, .refl _, trivial⟩, trivial⟩

def wayC (l : List ((Int × List (Int × Int)) × Bool)) : List SV := [conses l]
def waysR (l : List (List ((Int × List (Int × Int)) × Bool))) : SV := .row (List ((Int × List (Int × Int)) × Bool)) 1 wayC [] l
def toldF (e : Int) (l : List (List ((Int × List (Int × Int)) × Bool))) : List (List ((Int × List (Int × Int)) × Bool)) × Int := if e = 0 then (l, 0) else ([], e)
def mk_told : CtrB := { A := List (List ((Int × List (Int × Int)) × Bool)) × Int, enc := fun x => [.box 1000 0, waysR x.1], pre := fun x => [[I x.2]], dom := fun _ => True, res := fun x _ => .tup [waysR (toldF x.2 x.1).1, I (toldF x.2 x.1).2], post := fun x _ => [[I x.2]] }
theorem mk_told_ok : CtrBSound Try.prog 27 mk_told :=
  ctrB_of_ax2 mixed _ Try.func27 (by kernel_rfl) rfl (fun _ _ => ⟨Nat.le_of_ble_eq_true rfl, Nat.le_of_ble_eq_true rfl⟩) fun ((l, e) : List (List ((Int × List (Int × Int)) × Bool)) × Int) id _ => by
    refine ⟨_, ⟨env_okB tys_ok (eqs := []) trivial (cs := []) trivial (bs := []) trivial (vec := []), fun _ h => h⟩, ?_⟩
    have r0 : (e != 0) = true → toldF e l = ([], e) := fun h => if_neg (by simpa using h)
    have r1 : (e != 0) = false → toldF e l = (l, 0) := fun h => if_pos (by simpa using h)
    refine ⟨?_, ?_⟩
    · skip
      intro h -- ((l, e).snd != 0) = true
      dsimp only at h
      refine ⟨?_, ?_⟩
      · kernel_rfl
      · skip
        exact ⟨.tup2 (by rw [r0 h]; exact .nil ..) (.int (by rw [r0 h])), ⟨rfl, .refl _, trivial⟩, trivial⟩
    · skip
      intro h -- ((l, e).snd != 0) = false
      dsimp only at h
      exact ⟨.tup2 (.rowEq (by rw [r1 h])) (.int (by rw [r1 h])), ⟨rfl, .refl _, trivial⟩, trivial⟩
def fk_one : Ctr := { A := (Int × List (Int × Int)) × Bool, enc := fun c => [consS c], dom := fun _ => True, res := fun c id => consesO [c] id }
theorem fk_one_ok : CtrSound Try.prog 28 fk_one :=
  ctr_of_ax (env_ok tys_ok (eqs := []) trivial (cs := []) trivial) mixed _ Try.func28 (by kernel_rfl) rfl (fun _ _ => Nat.le_of_ble_eq_true rfl) fun (c : (Int × List (Int × Int)) × Bool) id _ => by
    refine ⟨(Int × List (Int × Int)) × Bool, consC, ((0, []), false), [c], ⟨rfl, fun _ => rfl⟩, ⟨.refl _, .refl _, .refl _, trivial⟩, rfl, ?_⟩
    exact ⟨.refl _, rfl⟩
end Go.Proofs.Ytndndemnjmdanaa.Ax
