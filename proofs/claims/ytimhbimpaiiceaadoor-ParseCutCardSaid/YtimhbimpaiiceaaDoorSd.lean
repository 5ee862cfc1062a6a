/- Layer show: types. -/
import Derived.Test.YtimhbimpaiiceaaDoorSc
set_option linter.unusedVariables false
set_option linter.unusedSimpArgs false
namespace Go.Proofs.YtimhbimpaiiceaaDoor.Ax
open Go Go.RowKit
theorem eqT {a b : Int} (h : (a == b) = true) : a = b := eq_of_beq h
theorem eqF {a b : Int} (h : (a == b) = false) : a ≠ b := fun c => by rw [c] at h; simp at h
def tyS (t : Int × ByteArray) : SV := .agg [I t.1, S t.2]
def typedF (k : Int) (l : List UInt8) : Bool := if k = 1 ∨ k = 2 ∨ k = 4 then decide (l = []) else if k = 3 ∨ k = 5 then freshF l else false
def typedC : Ctr := { A := Int × List UInt8, enc := fun x => [tyS (x.1, txt x.2)], dom := fun x => x.2.length ≤ 4611686018427387904, res := fun x _ => B (typedF x.1 x.2), gl := tabS }
def kindF (k : Int) (s : ByteArray) : List ByteArray := if k = 1 then [⟨#[118, 111, 105, 100]⟩] else if k = 2 then [⟨#[105, 110, 116]⟩] else if k = 4 then [⟨#[105, 110, 116]⟩, ⟨#[91]⟩, ⟨#[93]⟩] else if k = 5 then [s, ⟨#[91]⟩, ⟨#[93]⟩] else [s]
def kindC : Ctr := { A := Int × ByteArray, enc := fun x => [tyS x], dom := fun _ => True, res := fun x id => .own ByteArray 1 strC ⟨#[]⟩ (kindF x.1 x.2) id }
theorem kind_len (k : Int) (l : List UInt8) : (kindF k (txt l)).length ≤ 3 ∧ (sjoinF (kindF k (txt l)) ⟨#[]⟩).length ≤ l.length + 10 := by
  unfold kindF sjoinF
  split
  · exact ⟨by decide, by simp [Lib.join_cons, Lib.joinTail]⟩
  · split
    · exact ⟨by decide, by simp [Lib.join_cons, Lib.joinTail]⟩
    · split
      · exact ⟨by decide, by simp [Lib.join_cons, Lib.joinTail]⟩
      · split
        · exact ⟨by simp, by simp [Lib.join_cons, Lib.joinTail]⟩
        · exact ⟨by simp, by simp [Lib.join_cons, Lib.joinTail]⟩
def typeF (k : Int) (l : List UInt8) : List UInt8 × Int := if typedF k l then (sjoinF (kindF k (txt l)) ⟨#[]⟩, 0) else ([], 4)
def typeC : Ctr := { A := Int × List UInt8, enc := fun x => [tyS (x.1, txt x.2)], dom := fun x => x.2.length ≤ 1000000, res := fun x _ => .tup [X (typeF x.1 x.2).1, I (typeF x.1 x.2).2], gl := tabS }
end Go.Proofs.YtimhbimpaiiceaaDoor.Ax
