/- Layer lex by the logic: what the statements look at. -/
import Derived.Test.YtimhbimpaiiceaaDoorLg
set_option linter.unusedVariables false
set_option linter.unusedSimpArgs false
namespace Go.Proofs.YtimhbimpaiiceaaDoor.Ax
open Go Go.RowKit
theorem dlt {a b : Nat} (h : decide ((a : Int) < (b : Int)) = true) : a < b := by have := of_decide_eq_true h; omega
theorem dge {a b : Nat} (h : decide ((a : Int) < (b : Int)) = false) : b ≤ a := by have := of_decide_eq_false h; omega
theorem lneT {a b : Nat} (h : ((a : Int) != (b : Int)) = true) : a ≠ b := by simp at h; omega
theorem lneF {a b : Nat} (h : ((a : Int) != (b : Int)) = false) : a = b := by simp at h; omega
theorem ext_getD {α : Type} (d : α) : ∀ {k l : List α}, k.length = l.length → (∀ j, j < k.length → k.getD j d = l.getD j d) → k = l
  | [], [], _, _ => rfl
  | [], _ :: _, h, _ => by simp at h
  | _ :: _, [], h, _ => by simp at h
  | x :: k, y :: l, h, hj => by
    have h0 : x = y := by simpa using hj 0 (by simp)
    rw [h0, ext_getD d (k := k) (l := l) (by simpa using h) (fun j hlt => by simpa using hj (j + 1) (by simpa using hlt))]
def keepR (T : Type) [DecidableEq T] (sz : Nat) (cs : T → List SV) (d : T) : Ctr := { A := List T × List T, enc := fun x => [.row T sz cs d x.1, .row T sz cs d x.2], dom := fun x => x.1.length ≤ 4611686018427387904, res := fun x _ => B (decide (x.1 = x.2)) }
theorem tok_eq : EqSound Tryd.prog 82 (flatC (Int × ByteArray × Int × Int) tokC) :=
  eq_flat [.int .i64, .str, .int .i64, .int .i64] _ tokC Tryd.underlying82 (by kernel_rfl) (by kernel_rfl) (by kernel_rfl) (fun _ => rfl)
theorem tok_dec (a b : Int × ByteArray × Int × Int) : cellsEq (tokC a) (tokC b) = decide (a = b) := by
  obtain ⟨a1, a2, a3, a4⟩ := a
  obtain ⟨b1, b2, b3, b4⟩ := b
  rw [Bool.eq_iff_iff]
  simp [tokC, cellsEq, cellEq, ba_eq]
def twinC : Ctr := { A := List UInt8, enc := fun l => [.row UInt8 1 byteC 0 l], dom := fun l => l.length ≤ 140737488355328, res := fun l id => .own UInt8 1 byteC 0 l id }
theorem twin_ok : CtrSound Tryd.prog 17 twinC :=
  ctr_of_ax (env_ok tys_ok (eqs := []) trivial (cs := []) trivial) mixed _ Tryd.func17 (by kernel_rfl) rfl (fun _ _ => Nat.le_of_ble_eq_true rfl) fun (l : List UInt8) id hd => by
    have hd : l.length ≤ 140737488355328 := hd
    refine ⟨UInt8, byteC, 0, [], l, 0, ⟨.nilO .., .refl _⟩, fun _ => rfl, (by simp only [List.length_nil]; omega), ?_⟩
    exact ⟨.ownEq (by simp), rfl⟩
def wakesC : Ctr := { A := Unit, enc := fun _ => [], dom := fun _ => True, res := fun _ _ => .tt, gl := tabs }
theorem w1 : (scanF [97, 45, 49, 32, 123]).2 = (0, 0) := by decide +kernel
theorem w2 : (scanF [97, 32, 48, 49]).2 = (2, 3) := by decide +kernel
theorem w3 : (scanF [97, 45, 49, 32, 123]).1.length = 3 := by decide +kernel
theorem w4 : ((scanF [97, 45, 49, 32, 123]).1.getD 1 tok0).2.2.1 = -1 := by decide +kernel
theorem w5 : ((scanF [97, 45, 49, 32, 123]).1.getD 2 tok0).2.2.2 = 4 := by decide +kernel
theorem w6 : nameF [95, 97, 49] = true := by decide +kernel
theorem w7 : nameF [49, 97] = false := by decide +kernel
end Go.Proofs.YtimhbimpaiiceaaDoor.Ax
