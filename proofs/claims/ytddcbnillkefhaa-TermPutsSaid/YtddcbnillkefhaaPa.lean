/- Layer term by the logic: rows that are written: Clone, Twin, IndexFunc, DeleteFunc. -/
import Derived.Test.YtddcbnillkefhaaTr
set_option linter.unusedVariables false
set_option linter.unusedSimpArgs false
namespace Go.Proofs.Ytddcbnillkefhaa.Ax
open Go Go.RowKit
def monoM (l : List (Int × Int)) : SV := .many (Int × Int) 2 monoC (0, 0) l
def p_Clone : CtrB := { A := List (Int × Int), enc := fun l => [monos l], pre := fun _ => [], dom := fun l => l.length ≤ 1000000, res := fun l _ => .arr 1000 2 0 l.length none, post := fun l _ => [[monoM l]] }
theorem p_Clone_ok : CtrBSound Try.prog 35 p_Clone :=
  ctrB_of_ax2 mixed _ Try.func35 (by kernel_rfl) rfl (fun _ _ => ⟨Nat.le_of_ble_eq_true rfl, Nat.le_of_ble_eq_true rfl⟩) fun (l : List (Int × Int)) id hd => by
    have hd : l.length ≤ 1000000 := hd
    refine ⟨_, ⟨env_okB tys_ok (eqs := []) trivial (cs := []) trivial (bs := []) trivial (vec := [7]) (cut := [99998]), fun _ h => h⟩, ?_⟩
    refine ⟨fun h => ?_, fun h => ?_⟩
    · have e : l = [] := by
        have h : isE l = true := by first | exact h | exact h.1 rfl | exact h rfl | simpa using h
        cases l with
        | nil => rfl
        | cons a r => cases h
      subst e
      refine ⟨Unit, fun _ => [(2, .arr 7 2 0 0 none)], fun _ => [(7, [monoM []])], fun _ => True, ?_, fun _ _ => ?_⟩
      · exact ⟨(), trivial, ⟨rfl, rfl⟩, .nilA .., ⟨rfl, Nat.le_of_ble_eq_true rfl, fun _ => ⟨rfl, rfl, rfl⟩⟩, trivial⟩
      · exact ⟨.refl _, rfl, .refl _, trivial⟩
    · refine ⟨Unit, fun _ => [(2, .arr 7 2 0 l.length none)], fun _ => [(7, [monoM l])], fun _ => True, ?_, fun _ _ => ?_⟩
      · refine ⟨Int × Int, monoC, (0, 0), l, ⟨.refl _, .refl _⟩, fun _ => ⟨rfl, rfl, rfl⟩, (show l.length * 16 ≤ 140737488355328 by omega), ?_⟩
        exact ⟨(), trivial, ⟨rfl, rfl⟩, .refl _, ⟨.refl _, trivial⟩, trivial⟩
      · exact ⟨.refl _, rfl, .refl _, trivial⟩
def p_Twin : CtrB := { A := Int × List (Int × Int), enc := fun t => [termS t], pre := fun _ => [], dom := fun t => t.2.length ≤ 1000000, res := fun t _ => .agg [I t.1, .arr 1000 2 0 t.2.length none], post := fun t _ => [[monoM t.2]] }
theorem p_Twin_ok : CtrBSound Try.prog 30 p_Twin :=
  ctrB_of_ax2 mixed _ Try.func30 (by kernel_rfl) rfl (fun _ _ => ⟨Nat.le_of_ble_eq_true rfl, Nat.le_of_ble_eq_true rfl⟩) fun ((c, l) : Int × List (Int × Int)) id hd => by
    refine ⟨_, ⟨env_okB tys_ok (eqs := []) trivial (cs := []) trivial (bs := [(35, p_Clone)]) ⟨p_Clone_ok, trivial⟩ (qu := [1, 3, 5]), fun _ h => h⟩, ?_⟩
    refine ⟨?_, ?_⟩
    · kernel_rfl
    · skip
      refine ⟨?_, ?_⟩
      · kernel_rfl
      · skip
        refine ⟨l, ⟨.refl _, trivial⟩, trivial, hd, ?_⟩
        exact ⟨.refl _, rfl, .refl _, trivial⟩
end Go.Proofs.Ytddcbnillkefhaa.Ax
