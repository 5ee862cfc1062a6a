/- Layer show: the words of instructions, the kept ones. -/
import Derived.Test.YtimhbimpaiiceaaDoorSb
import Derived.Test.YtimhbimpaiiceaaDoorLc
set_option linter.unusedVariables false
set_option linter.unusedSimpArgs false
namespace Go.Proofs.YtimhbimpaiiceaaDoor.Ax
open Go Go.RowKit
def keptB : ByteArray := ⟨#[99, 108, 97, 115, 115, 32, 105, 110, 116, 101, 114, 102, 97, 99, 101, 32, 101, 120, 116, 101, 110, 100, 115, 32, 105, 109, 112, 108, 101, 109, 101, 110, 116, 115, 32, 102, 105, 101, 108, 100, 32, 115, 116, 97, 116, 105, 99, 32, 109, 101, 116, 104, 111, 100, 32, 102, 117, 110, 99, 116, 105, 111, 110, 32, 108, 111, 99, 97, 108, 115, 32, 99, 97, 116, 99, 104, 32, 105, 110, 116, 32, 118, 111, 105, 100]⟩
def keptL : List ByteArray := [⟨#[99, 108, 97, 115, 115]⟩, ⟨#[105, 110, 116, 101, 114, 102, 97, 99, 101]⟩, ⟨#[101, 120, 116, 101, 110, 100, 115]⟩, ⟨#[105, 109, 112, 108, 101, 109, 101, 110, 116, 115]⟩, ⟨#[102, 105, 101, 108, 100]⟩, ⟨#[115, 116, 97, 116, 105, 99]⟩, ⟨#[109, 101, 116, 104, 111, 100]⟩, ⟨#[102, 117, 110, 99, 116, 105, 111, 110]⟩, ⟨#[108, 111, 99, 97, 108, 115]⟩, ⟨#[99, 97, 116, 99, 104]⟩, ⟨#[105, 110, 116]⟩, ⟨#[118, 111, 105, 100]⟩]
def opsB : ByteArray := ⟨#[110, 111, 112, 32, 99, 111, 110, 115, 116, 32, 110, 117, 108, 108, 32, 108, 111, 97, 100, 32, 115, 116, 111, 114, 101, 32, 112, 111, 112, 32, 100, 117, 112, 32, 115, 119, 97, 112, 32, 97, 100, 100, 32, 115, 117, 98, 32, 109, 117, 108, 32, 100, 105, 118, 32, 114, 101, 109, 32, 110, 101, 103, 32, 103, 111, 116, 111, 32, 105, 102, 101, 113, 32, 105, 102, 110, 101, 32, 105, 102, 108, 116, 32, 105, 102, 103, 101, 32, 99, 109, 112, 101, 113, 32, 99, 109, 112, 110, 101, 32, 99, 109, 112, 108, 116, 32, 99, 109, 112, 103, 101, 32, 105, 102, 110, 117, 108, 108, 32, 105, 102, 114, 101, 102, 32, 115, 97, 109, 101, 32, 111, 116, 104, 101, 114, 32, 110, 101, 119, 32, 103, 101, 116, 32, 112, 117, 116, 32, 103, 101, 116, 115, 32, 112, 117, 116, 115, 32, 105, 110, 116, 115, 32, 114, 101, 102, 115, 32, 108, 101, 110, 32, 97, 116, 32, 115, 101, 116, 32, 105, 115, 32, 99, 97, 115, 116, 32, 99, 97, 108, 108, 32, 102, 117, 110, 99, 32, 114, 101, 116, 32, 108, 101, 97, 118, 101, 32, 116, 104, 114, 111, 119]⟩
def opsL : List ByteArray := [⟨#[110, 111, 112]⟩, ⟨#[99, 111, 110, 115, 116]⟩, ⟨#[110, 117, 108, 108]⟩, ⟨#[108, 111, 97, 100]⟩, ⟨#[115, 116, 111, 114, 101]⟩, ⟨#[112, 111, 112]⟩, ⟨#[100, 117, 112]⟩, ⟨#[115, 119, 97, 112]⟩, ⟨#[97, 100, 100]⟩, ⟨#[115, 117, 98]⟩, ⟨#[109, 117, 108]⟩, ⟨#[100, 105, 118]⟩, ⟨#[114, 101, 109]⟩, ⟨#[110, 101, 103]⟩, ⟨#[103, 111, 116, 111]⟩, ⟨#[105, 102, 101, 113]⟩, ⟨#[105, 102, 110, 101]⟩, ⟨#[105, 102, 108, 116]⟩, ⟨#[105, 102, 103, 101]⟩, ⟨#[99, 109, 112, 101, 113]⟩, ⟨#[99, 109, 112, 110, 101]⟩, ⟨#[99, 109, 112, 108, 116]⟩, ⟨#[99, 109, 112, 103, 101]⟩, ⟨#[105, 102, 110, 117, 108, 108]⟩, ⟨#[105, 102, 114, 101, 102]⟩, ⟨#[115, 97, 109, 101]⟩, ⟨#[111, 116, 104, 101, 114]⟩, ⟨#[110, 101, 119]⟩, ⟨#[103, 101, 116]⟩, ⟨#[112, 117, 116]⟩, ⟨#[103, 101, 116, 115]⟩, ⟨#[112, 117, 116, 115]⟩, ⟨#[105, 110, 116, 115]⟩, ⟨#[114, 101, 102, 115]⟩, ⟨#[108, 101, 110]⟩, ⟨#[97, 116]⟩, ⟨#[115, 101, 116]⟩, ⟨#[105, 115]⟩, ⟨#[99, 97, 115, 116]⟩, ⟨#[99, 97, 108, 108]⟩, ⟨#[102, 117, 110, 99]⟩, ⟨#[114, 101, 116]⟩, ⟨#[108, 101, 97, 118, 101]⟩, ⟨#[116, 104, 114, 111, 119]⟩]
theorem kept_words : wordsF keptB = keptL := by decide +kernel
theorem ops_words : wordsF opsB = opsL := by decide +kernel
theorem ascii_dom {s : ByteArray} (h1 : s.size < 4294967281) (h2 : (s.data.toList.all fun b => decide (b.toNat < 128)) = true) : s.size < 4294967281 ∧ ∀ (j : Nat) (b : UInt8), s.data.toList[j]? = some b → b.toNat < 128 :=
  ⟨h1, fun j b hb => of_decide_eq_true (List.all_eq_true.1 h2 b (List.mem_of_getElem? hb))⟩
theorem kept_dom : fieldsC.dom keptB := ascii_dom (s := keptB) (by decide +kernel) (by decide +kernel)
theorem ops_dom : fieldsC.dom opsB := ascii_dom (s := opsB) (by decide +kernel) (by decide +kernel)
def keptF (l : List UInt8) : Bool := Lib.containsS keptL ⟨l.toArray⟩
def keptC : Ctr := { A := List UInt8, enc := fun l => [X l], dom := fun _ => True, res := fun l _ => B (keptF l), gl := tabS }
set_option maxRecDepth 100000 in
theorem kept_ok : CtrSound Tryd.prog 14 keptC :=
  ctr_of_ax (env_okB tys_ok (eqs := []) trivial (cs := [(33, fieldsC), (32, hasC)]) ⟨fields_ok, has_ok, trivial⟩ (bs := []) trivial (gl := tabS)) mixed _ Tryd.func14 (by kernel_rfl) rfl (fun _ _ => Nat.le_of_ble_eq_true rfl) fun (l : List UInt8) id hd => by
    refine ⟨keptB, ⟨.str (by kernel_rfl), trivial⟩, rfl, kept_dom, ?_⟩
    refine ⟨(wordsF keptB, ⟨l.toArray⟩), ⟨.own .., .refl _, trivial⟩, rfl, (show (wordsF keptB).length ≤ 4611686018427387904 by rw [kept_words]; decide), ?_⟩
    exact ⟨.bool (by show Lib.containsS (wordsF keptB) _ = _; rw [kept_words]; rfl), rfl⟩
def freshF (l : List UInt8) : Bool := nameF l && !keptF l
def freshC : Ctr := { A := List UInt8, enc := fun l => [X l], dom := fun l => l.length ≤ 4611686018427387904, res := fun l _ => B (freshF l), gl := tabS }
def opsC : Ctr := { A := Unit, enc := fun _ => [], dom := fun _ => True, res := fun _ id => .own ByteArray 1 strC ⟨#[]⟩ opsL id, gl := tabS }
set_option maxRecDepth 100000 in
theorem ops_ok : CtrSound Tryd.prog 28 opsC :=
  ctr_of_ax (env_okB tys_ok (eqs := []) trivial (cs := [(33, fieldsC)]) ⟨fields_ok, trivial⟩ (bs := []) trivial (gl := tabS)) mixed _ Tryd.func28 (by kernel_rfl) rfl (fun _ _ => Nat.le_of_ble_eq_true rfl) fun (_ : Unit) id hd => by
    refine ⟨opsB, ⟨.str (by kernel_rfl), trivial⟩, rfl, ops_dom, ?_⟩
    exact ⟨.ownEq ops_words, rfl⟩
def wordF2 (n : Int) : ByteArray := if n < 0 ∨ 44 ≤ n then ⟨#[]⟩ else opsL.getD n.toNat ⟨#[]⟩
def pwordC : Ctr := { A := Int, enc := fun n => [I n], dom := fun _ => True, res := fun n _ => S (wordF2 n), gl := tabS }
set_option maxRecDepth 100000 in
theorem pword_ok : CtrSound Tryd.prog 11 pwordC :=
  ctr_of_ax (env_okB tys_ok (eqs := []) trivial (cs := [(28, opsC)]) ⟨ops_ok, trivial⟩ (bs := []) trivial (gl := tabS)) mixed _ Tryd.func11 (by kernel_rfl) rfl (fun _ _ => Nat.le_of_ble_eq_true rfl) fun (n : Int) id hd => by
    refine ⟨fun h => ?_, fun h => ?_⟩
    · exact ⟨.str (by unfold wordF2; rw [if_pos (.inl (of_decide_eq_true h))]), rfl⟩
    have h0 : ¬ n < 0 := of_decide_eq_false h
    refine ⟨fun h => ?_, fun h => ?_⟩
    · exact ⟨.str (by unfold wordF2; rw [if_pos (.inr (of_decide_eq_true h))]), rfl⟩
    have h1 : ¬ n ≥ 44 := of_decide_eq_false h
    have hl : opsL.length = 44 := by decide
    refine ⟨(), trivial, rfl, trivial, ?_⟩
    refine ⟨⟨by omega, by rw [hl]; show n < ((44 : Nat) : Int); omega⟩, ?_⟩
    exact ⟨.str (by unfold wordF2; rw [if_neg (by omega)]), rfl⟩
end Go.Proofs.YtimhbimpaiiceaaDoor.Ax
