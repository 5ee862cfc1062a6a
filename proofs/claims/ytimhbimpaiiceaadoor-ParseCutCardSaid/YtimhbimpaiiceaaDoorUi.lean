/- Small lemmas for the leaves of the logic's walks. -/
import Derived.Test.YtimhbimpaiiceaaDoorT
set_option linter.unusedVariables false
set_option linter.unusedSimpArgs false
namespace Go.Proofs.YtimhbimpaiiceaaDoor.Ax
open Go Go.RowKit
theorem Sub.bool {a b : Bool} (h : a = b) : Sub (.val (.bool a)) (.val (.bool b)) := by subst h; exact .refl _
theorem Sub.btt {b : Bool} (h : b = true) : Sub .tt (.val (.bool b)) := by subst h; exact .tt
theorem Sub.bff {b : Bool} (h : b = false) : Sub .ff (.val (.bool b)) := by subst h; exact .ff
theorem Sub.toTT {b : Bool} (h : b = true) : Sub (.val (.bool b)) .tt := by subst h; exact .tt'
theorem Sub.toFF {b : Bool} (h : b = false) : Sub (.val (.bool b)) .ff := by subst h; exact .ff'
theorem Sub.int {k : IntKind} {a b : Int} (h : a = b) : Sub (.val (.int k a)) (.val (.int k b)) := by subst h; exact .refl _
theorem Sub.str {a b : ByteArray} (h : a = b) : Sub (.val (.string a)) (.val (.string b)) := by subst h; exact .refl _
theorem Sub.ownEq {T : Type} {sz : Nat} {cs : T → List SV} {d : T} {a b : List T} {id : Nat} (h : a = b) : Sub (.own T sz cs d a id) (.own T sz cs d b id) := by subst h; exact .refl _
theorem Sub.rowEq {T : Type} {sz : Nat} {cs : T → List SV} {d : T} {a b : List T} (h : a = b) : Sub (.row T sz cs d a) (.row T sz cs d b) := by subst h; exact .refl _
theorem Sub.ownRow {T : Type} {sz : Nat} {cs : T → List SV} {d : T} {a b : List T} {id : Nat} (h : a = b) : Sub (.own T sz cs d a id) (.row T sz cs d b) := by subst h; exact .own ..
theorem Sub.tup1 {a b : SV} (h : Sub a b) : Sub (.tup [a]) (.tup [b]) := .tup _ _ rfl fun j hj => by
  obtain rfl : j = 0 := by simpa using hj
  exact h
theorem Sub.tup2 {a b c d : SV} (h : Sub a b) (h2 : Sub c d) : Sub (.tup [a, c]) (.tup [b, d]) := .tup _ _ rfl fun j hj => by
  match j, hj with
  | 0, _ => exact h
  | 1, _ => exact h2
theorem Sub.tup3 {a b c d e f : SV} (h : Sub a b) (h2 : Sub c d) (h3 : Sub e f) : Sub (.tup [a, c, e]) (.tup [b, d, f]) := .tup _ _ rfl fun j hj => by
  match j, hj with
  | 0, _ => exact h
  | 1, _ => exact h2
  | 2, _ => exact h3
theorem Sub.agg2 {a b c d : SV} (h : Sub a b) (h2 : Sub c d) : Sub (.agg [a, c]) (.agg [b, d]) := .agg _ _ rfl fun j hj => by
  match j, hj with
  | 0, _ => exact h
  | 1, _ => exact h2
theorem Sub.agg3 {a b c d e f : SV} (h : Sub a b) (h2 : Sub c d) (h3 : Sub e f) : Sub (.agg [a, c, e]) (.agg [b, d, f]) := .agg _ _ rfl fun j hj => by
  match j, hj with
  | 0, _ => exact h
  | 1, _ => exact h2
  | 2, _ => exact h3
theorem wrap_eq (n : Int) (h0 : -9223372036854775808 ≤ n) (h1 : n ≤ 9223372036854775807) : IntKind.i64.wrap n = n := by
  simp only [IntKind.wrap, IntKind.bits, IntKind.signed]
  simp
  omega
end Go.Proofs.YtimhbimpaiiceaaDoor.Ax
