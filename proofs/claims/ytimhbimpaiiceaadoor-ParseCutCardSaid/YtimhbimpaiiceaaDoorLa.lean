/- Layer lex by the logic: bytes. -/
import Derived.Test.YtimhbimpaiiceaaDoorLb
set_option linter.unusedVariables false
set_option linter.unusedSimpArgs false
namespace Go.Proofs.YtimhbimpaiiceaaDoor.Ax
open Go Go.RowKit
abbrev Y (c : UInt8) : SV := .val (.int .u8 (c.toNat : Int))
def isLet (c : UInt8) : Bool := decide ((97 ≤ c.toNat ∧ c.toNat ≤ 122) ∨ (65 ≤ c.toNat ∧ c.toNat ≤ 90) ∨ c.toNat = 95)
def isDig (c : UInt8) : Bool := decide (48 ≤ c.toNat ∧ c.toNat ≤ 57)
def signsL : List UInt8 := [123, 125, 40, 41, 58, 59, 44, 91, 93]
def blanksL : List UInt8 := [32, 9, 10, 13]
def isSign (c : UInt8) : Bool := signsL.contains c
def isBlank (c : UInt8) : Bool := blanksL.contains c
def byteB (f : UInt8 → Bool) : Ctr := { A := UInt8, enc := fun c => [Y c], dom := fun _ => True, res := fun c _ => B (f c) }
theorem letter_ok : CtrSound Tryd.prog 30 (byteB isLet) :=
  ctr_of_ax (env_ok tys_ok (eqs := []) trivial (cs := []) trivial) mixed _ Tryd.func30 (by kernel_rfl) rfl (fun _ _ => Nat.le_of_ble_eq_true rfl) fun (c : UInt8) id _ => by
    refine ⟨?_, ?_⟩
    · skip
      intro h -- decide (↑c.toNat ≥ 97) = true
      refine ⟨?_, ?_⟩
      · skip
        intro h -- decide (↑c.toNat ≤ 122) = true
        exact ⟨.btt (by simp [isLet] at *; omega), rfl⟩
      · skip
        intro h -- decide (↑c.toNat ≤ 122) = false
        refine ⟨?_, ?_⟩
        · skip
          intro h -- decide (↑c.toNat ≥ 65) = true
          refine ⟨?_, ?_⟩
          · skip
            intro h -- decide (↑c.toNat ≤ 90) = true
            exact ⟨.btt (by simp [isLet] at *; omega), rfl⟩
          · skip
            intro h -- decide (↑c.toNat ≤ 90) = false
            exact ⟨.bool (by rw [Bool.eq_iff_iff]; simp [isLet] at *; omega), rfl⟩
        · skip
          intro h -- decide (↑c.toNat ≥ 65) = false
          exact ⟨.bool (by rw [Bool.eq_iff_iff]; simp [isLet] at *; omega), rfl⟩
    · skip
      intro h -- decide (↑c.toNat ≥ 97) = false
      refine ⟨?_, ?_⟩
      · skip
        intro h -- decide (↑c.toNat ≥ 65) = true
        refine ⟨?_, ?_⟩
        · skip
          intro h -- decide (↑c.toNat ≤ 90) = true
          exact ⟨.btt (by simp [isLet] at *; omega), rfl⟩
        · skip
          intro h -- decide (↑c.toNat ≤ 90) = false
          exact ⟨.bool (by rw [Bool.eq_iff_iff]; simp [isLet] at *; omega), rfl⟩
      · skip
        intro h -- decide (↑c.toNat ≥ 65) = false
        exact ⟨.bool (by rw [Bool.eq_iff_iff]; simp [isLet] at *; omega), rfl⟩
theorem digit_ok : CtrSound Tryd.prog 31 (byteB isDig) :=
  ctr_of_ax (env_ok tys_ok (eqs := []) trivial (cs := []) trivial) mixed _ Tryd.func31 (by kernel_rfl) rfl (fun _ _ => Nat.le_of_ble_eq_true rfl) fun (c : UInt8) id _ => by
    refine ⟨?_, ?_⟩
    · skip
      intro h -- decide (↑c.toNat ≥ 48) = true
      exact ⟨.bool (by rw [Bool.eq_iff_iff]; simp [isDig] at *; omega), rfl⟩
    · skip
      intro h -- decide (↑c.toNat ≥ 48) = false
      exact ⟨.bff (by simp [isDig] at *; omega), rfl⟩
theorem rletter_ok : CtrSound Tryd.prog 37 (byteB isLet) :=
  ctr_of_ax (env_ok tys_ok (eqs := []) trivial (cs := []) trivial) mixed _ Tryd.func37 (by kernel_rfl) rfl (fun _ _ => Nat.le_of_ble_eq_true rfl) fun (c : UInt8) id _ => by
    refine ⟨?_, ?_⟩
    · skip
      intro h -- decide (↑c.toNat ≥ 97) = true
      refine ⟨?_, ?_⟩
      · skip
        intro h -- decide (↑c.toNat ≤ 122) = true
        exact ⟨.btt (by simp [isLet] at *; omega), rfl⟩
      · skip
        intro h -- decide (↑c.toNat ≤ 122) = false
        refine ⟨?_, ?_⟩
        · skip
          intro h -- decide (↑c.toNat ≥ 65) = true
          refine ⟨?_, ?_⟩
          · skip
            intro h -- decide (↑c.toNat ≤ 90) = true
            exact ⟨.btt (by simp [isLet] at *; omega), rfl⟩
          · skip
            intro h -- decide (↑c.toNat ≤ 90) = false
            exact ⟨.bool (by rw [Bool.eq_iff_iff]; simp [isLet] at *; omega), rfl⟩
        · skip
          intro h -- decide (↑c.toNat ≥ 65) = false
          exact ⟨.bool (by rw [Bool.eq_iff_iff]; simp [isLet] at *; omega), rfl⟩
    · skip
      intro h -- decide (↑c.toNat ≥ 97) = false
      refine ⟨?_, ?_⟩
      · skip
        intro h -- decide (↑c.toNat ≥ 65) = true
        refine ⟨?_, ?_⟩
        · skip
          intro h -- decide (↑c.toNat ≤ 90) = true
          exact ⟨.btt (by simp [isLet] at *; omega), rfl⟩
        · skip
          intro h -- decide (↑c.toNat ≤ 90) = false
          exact ⟨.bool (by rw [Bool.eq_iff_iff]; simp [isLet] at *; omega), rfl⟩
      · skip
        intro h -- decide (↑c.toNat ≥ 65) = false
        exact ⟨.bool (by rw [Bool.eq_iff_iff]; simp [isLet] at *; omega), rfl⟩
theorem rdigit_ok : CtrSound Tryd.prog 38 (byteB isDig) :=
  ctr_of_ax (env_ok tys_ok (eqs := []) trivial (cs := []) trivial) mixed _ Tryd.func38 (by kernel_rfl) rfl (fun _ _ => Nat.le_of_ble_eq_true rfl) fun (c : UInt8) id _ => by
    refine ⟨?_, ?_⟩
    · skip
      intro h -- decide (↑c.toNat ≥ 48) = true
      exact ⟨.bool (by rw [Bool.eq_iff_iff]; simp [isDig] at *; omega), rfl⟩
    · skip
      intro h -- decide (↑c.toNat ≥ 48) = false
      exact ⟨.bff (by simp [isDig] at *; omega), rfl⟩
theorem u8_eq {a b : UInt8} : (a == b) = decide (a.toNat = b.toNat) := by
  rw [Bool.eq_iff_iff]; simp [UInt8.toNat_inj]
theorem blank_eq (c : UInt8) : isBlank c = decide (c.toNat = 32 ∨ c.toNat = 9 ∨ c.toNat = 10 ∨ c.toNat = 13) := by
  rw [Bool.eq_iff_iff]
  simp [isBlank, blanksL, List.contains_cons, ← UInt8.toNat_inj]
theorem sign_eq (c : UInt8) : isSign c = decide (c.toNat = 123 ∨ c.toNat = 125 ∨ c.toNat = 40 ∨ c.toNat = 41 ∨ c.toNat = 58 ∨ c.toNat = 59 ∨ c.toNat = 44 ∨ c.toNat = 91 ∨ c.toNat = 93) := by
  rw [Bool.eq_iff_iff]
  simp [isSign, signsL, List.contains_cons, ← UInt8.toNat_inj]
theorem idx_has (l : List UInt8) (c : UInt8) : decide (Lib.indexByte l c ≥ 0) = l.contains c := by
  rw [Bool.eq_iff_iff]
  simp only [decide_eq_true_eq]
  induction l with
  | nil => simp [Lib.indexByte]
  | cons b l ih =>
    have := Lib.indexByte_ge l c
    unfold Lib.indexByte
    by_cases h : b = c
    · subst h; simp
    · have h1 : (b == c) = false := by simpa using h
      have h2 : (c == b) = false := by simpa using fun e => h e.symm
      simp only [h1, List.contains_cons, h2, Bool.false_or]
      rw [← ih]
      by_cases h3 : Lib.indexByte l c = -1
      · simp [h3]
      · have h4 : (Lib.indexByte l c == -1) = false := by simpa using h3
        simp [h4]
        omega
def signsB : ByteArray := ⟨#[123, 125, 40, 41, 58, 59, 44, 91, 93]⟩
end Go.Proofs.YtimhbimpaiiceaaDoor.Ax
