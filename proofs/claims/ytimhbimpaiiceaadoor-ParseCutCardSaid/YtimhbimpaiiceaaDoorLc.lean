/- Layer lex by the logic: names, numbers. -/
import Derived.Test.YtimhbimpaiiceaaDoorLa
set_option linter.unusedVariables false
set_option linter.unusedSimpArgs false
namespace Go.Proofs.YtimhbimpaiiceaaDoor.Ax
open Go Go.RowKit
abbrev txt (l : List UInt8) : ByteArray := ⟨l.toArray⟩
abbrev X (l : List UInt8) : SV := .val (.string ⟨l.toArray⟩)
theorem at_txt (l : List UInt8) (i : Nat) : (txt l).data.getD i 0 = l.getD i 0 := by simp [txt]
theorem size_txt (l : List UInt8) : (⟨l.toArray⟩ : ByteArray).size = l.length := by simp [ByteArray.size]
theorem txt_nil (l : List UInt8) : ((txt l).toList == (⟨#[]⟩ : ByteArray).toList) = decide (l.length = 0) := by
  rw [Bool.eq_iff_iff]
  have h : ∀ b : ByteArray, b.toList = b.data.toList := fun b => ByteArray.toList_eq b
  simp [h, txt]
theorem txt_eq (l r : List UInt8) : ((txt l).toList == (txt r).toList) = decide (l = r) := by
  have h : ∀ b : ByteArray, b.toList = b.data.toList := fun b => ByteArray.toList_eq b
  rw [Bool.eq_iff_iff]
  simp [h, txt]
def isAl (c : UInt8) : Bool := isLet c || isDig c
def nameF (l : List UInt8) : Bool := decide (0 < l.length ∧ l.length ≤ 20) && isLet (l.getD 0 0) && l.all isAl
theorem all_at (p : UInt8 → Bool) (l : List UInt8) : l.all p = true ↔ ∀ j, j < l.length → p (l.getD j 0) = true := by
  rw [List.all_eq_true]
  constructor
  · intro h j hj
    simp only [List.getD, List.getElem?_eq_getElem hj, Option.getD_some]
    exact h _ (List.getElem_mem hj)
  · intro h x hx
    obtain ⟨j, hj, rfl⟩ := List.getElem_of_mem hx
    have := h j hj
    simpa [List.getD, List.getElem?_eq_getElem hj] using this
def nameC : Ctr := { A := List UInt8, enc := fun l => [X l], dom := fun l => l.length ≤ 4611686018427387904, res := fun l _ => B (nameF l) }
theorem name_ok : CtrSound Tryd.prog 13 nameC :=
  ctr_of_ax (env_ok tys_ok (eqs := []) trivial (cs := [(30, byteB isLet), (31, byteB isDig)]) ⟨letter_ok, digit_ok, trivial⟩) mixed _ Tryd.func13 (by kernel_rfl) rfl (fun _ _ => Nat.le_of_ble_eq_true rfl) fun (l : List UInt8) id hd => by
    have hd : l.length ≤ 4611686018427387904 := hd
    have hz := size_txt l
    have ha := at_txt l
    have bad : ∀ p : Prop, (p → nameF l = false) → p → Sub (B false) (B (nameF l)) := fun p h hp => .bool (h hp).symm
    have no1 : l.length = 0 → nameF l = false := fun h => by simp [nameF, h]
    have no2 : 20 < l.length → nameF l = false := fun h => by simp [nameF]; omega
    have no3 : isLet (l.getD 0 0) = false → nameF l = false := fun h => by simp only [nameF, h]; simp
    refine ⟨fun h => ?_, fun h => ?_⟩
    · rw [txt_nil] at h
      exact ⟨.bff (no1 (of_decide_eq_true h)), rfl⟩
    rw [txt_nil] at h
    have hpos : 0 < l.length := by have := of_decide_eq_false h; omega
    refine ⟨fun h => ?_, fun h => ?_⟩
    · exact ⟨.bff (no2 (by simp [hz] at h; omega)), rfl⟩
    have hle : l.length ≤ 20 := by simp [hz] at h; omega
    refine ⟨⟨by omega, by rw [hz]; omega⟩, ?_⟩
    refine ⟨(txt l).data.getD 0 0, ⟨.refl _, trivial⟩, rfl, trivial, ?_⟩
    refine ⟨fun h => ?_, fun h => ?_⟩
    · rw [ha] at h; exact ⟨.bff (no3 (by simpa using h)), rfl⟩
    have hlet : isLet (l.getD 0 0) = true := by rw [ha] at h; simpa using h
    refine ⟨Nat, fun i => [(0, X l), (19, I i), (18, I l.length)], fun _ => [], fun i => i ≤ l.length ∧ ∀ j, j < i → isAl (l.getD j 0) = true, fun i => l.length - i, ⟨0, ⟨Nat.zero_le _, fun j hj => by omega⟩, ⟨⟨rfl, rfl⟩, .refl _, .refl _, .int (by rw [hz]), trivial⟩⟩, fun (i : Nat) hi => ?_⟩
    have hil := hi.1
    have hn := hi.2
    have hwj : IntKind.i64.wrap ((i : Int) + 1) = ((i + 1 : Nat) : Int) := by rw [wrap_eq _ (by omega) (by omega)]; omega
    have yes : i = l.length → nameF l = true := fun h => by
      subst h
      simp only [nameF, hlet, (all_at isAl l).2 hn]
      simp; omega
    refine ⟨fun h => ?_, fun h => ?_⟩
    · have hlt : i < l.length := by have := of_decide_eq_true h; omega
      have no4 : isLet (l.getD i 0) = false → isDig (l.getD i 0) = false → nameF l = false := fun h1 h2 => by
        have : l.all isAl = false := by
          rw [Bool.eq_false_iff]
          intro c
          have := (all_at isAl l).1 c i hlt
          rw [isAl, h1, h2] at this
          cases this
        simp [nameF, this]
      have nx : ∀ b, isAl (l.getD i 0) = b → b = true → ∀ j, j < i + 1 → isAl (l.getD j 0) = true := fun b hb hb2 j hj => by
        rcases Nat.lt_succ_iff_lt_or_eq.1 hj with q | rfl
        · exact hn j q
        · rw [hb, hb2]
      have nb : ∀ {f : UInt8 → Bool}, (!f ((txt l).data.getD i 0)) = true → f (l.getD i 0) = false := fun h => by rw [ha] at h; simpa using h
      have yb : ∀ {f : UInt8 → Bool}, (!f ((txt l).data.getD i 0)) = false → f (l.getD i 0) = true := fun h => by rw [ha] at h; simpa using h
      refine ⟨⟨by omega, by rw [hz]; omega⟩, ?_⟩
      refine ⟨(txt l).data.getD i 0, ⟨.refl _, trivial⟩, rfl, trivial, ?_⟩
      refine ⟨fun h => ?_, fun h => ?_⟩
      · refine ⟨⟨by omega, by rw [hz]; omega⟩, ?_⟩
        refine ⟨(txt l).data.getD i 0, ⟨.refl _, trivial⟩, rfl, trivial, ?_⟩
        refine ⟨fun h2 => ?_, fun h2 => ?_⟩
        · exact ⟨.bff (no4 (nb h) (nb h2)), rfl⟩
        · exact ⟨i + 1, ⟨hlt, nx _ rfl (by simp only [isAl, yb h2, Bool.or_true])⟩, by show l.length - (i + 1) < l.length - i; omega, ⟨rfl, rfl⟩, .refl _, .int hwj, .refl _, trivial⟩
      · exact ⟨i + 1, ⟨hlt, nx _ rfl (by simp only [isAl, yb h, Bool.true_or])⟩, by show l.length - (i + 1) < l.length - i; omega, ⟨rfl, rfl⟩, .refl _, .int hwj, .refl _, trivial⟩
    · exact ⟨.btt (yes (by have := of_decide_eq_false h; omega)), rfl⟩
end Go.Proofs.YtimhbimpaiiceaaDoor.Ax
