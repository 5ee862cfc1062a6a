/- Layer lex by the logic: bytes. -/
import Derived.Test.YtjbpgfcoeaapjaaDoorLb
set_option linter.unusedVariables false
set_option linter.unusedSimpArgs false
namespace Go.Proofs.YtjbpgfcoeaapjaaDoor.Ax
open Go Go.RowKit
abbrev Y (c : UInt8) : SV := .val (.int .u8 (c.toNat : Int))
def isLet (c : UInt8) : Bool := decide ((97 ≤ c.toNat ∧ c.toNat ≤ 122) ∨ (65 ≤ c.toNat ∧ c.toNat ≤ 90) ∨ c.toNat = 95)
def isDig (c : UInt8) : Bool := decide (48 ≤ c.toNat ∧ c.toNat ≤ 57)
def signsL : List UInt8 := [123, 125, 40, 41, 58, 59, 44, 91, 93]
def blanksL : List UInt8 := [32, 9, 10, 13]
def isSign (c : UInt8) : Bool := signsL.contains c
def isBlank (c : UInt8) : Bool := blanksL.contains c
def byteB (f : UInt8 → Bool) : Ctr := { A := UInt8, enc := fun c => [Y c], dom := fun _ => True, res := fun c _ => B (f c) }
theorem letter_ok : CtrSound Tryd.prog 32 (byteB isLet) :=
  ctr_of_ax (env_ok tys_ok (eqs := []) trivial (cs := []) trivial) mixed _ Tryd.func32 (by kernel_rfl) rfl (fun _ _ => Nat.le_of_ble_eq_true rfl) fun (c : UInt8) id _ => by
    refine ⟨?_, ?_⟩
    · skip
      intro h -- decide (↑c.toNat ≥ 97) = true
      refine ⟨?_, ?_⟩
      · skip
        intro h -- decide (↑c.toNat ≤ 122) = true
        exact ⟨.btt (by simp [isLet] at *; omega), rfl⟩
      · skip
        intro h -- decide (↑c.toNat ≤ 122) = false
        refine ⟨?_, ?_⟩
        · skip
          intro h -- decide (↑c.toNat ≥ 65) = true
          refine ⟨?_, ?_⟩
          · skip
            intro h -- decide (↑c.toNat ≤ 90) = true
            exact ⟨.btt (by simp [isLet] at *; omega), rfl⟩
          · skip
            intro h -- decide (↑c.toNat ≤ 90) = false
            exact ⟨.bool (by rw [Bool.eq_iff_iff]; simp [isLet] at *; omega), rfl⟩
        · skip
          intro h -- decide (↑c.toNat ≥ 65) = false
          exact ⟨.bool (by rw [Bool.eq_iff_iff]; simp [isLet] at *; omega), rfl⟩
    · skip
      intro h -- decide (↑c.toNat ≥ 97) = false
      refine ⟨?_, ?_⟩
      · skip
        intro h -- decide (↑c.toNat ≥ 65) = true
        refine ⟨?_, ?_⟩
        · skip
          intro h -- decide (↑c.toNat ≤ 90) = true
          exact ⟨.btt (by simp [isLet] at *; omega), rfl⟩
        · skip
          intro h -- decide (↑c.toNat ≤ 90) = false
          exact ⟨.bool (by rw [Bool.eq_iff_iff]; simp [isLet] at *; omega), rfl⟩
      · skip
        intro h -- decide (↑c.toNat ≥ 65) = false
        exact ⟨.bool (by rw [Bool.eq_iff_iff]; simp [isLet] at *; omega), rfl⟩
theorem digit_ok : CtrSound Tryd.prog 33 (byteB isDig) :=
  ctr_of_ax (env_ok tys_ok (eqs := []) trivial (cs := []) trivial) mixed _ Tryd.func33 (by kernel_rfl) rfl (fun _ _ => Nat.le_of_ble_eq_true rfl) fun (c : UInt8) id _ => by
    refine ⟨?_, ?_⟩
    · skip
      intro h -- decide (↑c.toNat ≥ 48) = true
      exact ⟨.bool (by rw [Bool.eq_iff_iff]; simp [isDig] at *; omega), rfl⟩
    · skip
      intro h -- decide (↑c.toNat ≥ 48) = false
      exact ⟨.bff (by simp [isDig] at *; omega), rfl⟩
theorem rletter_ok : CtrSound Tryd.prog 35 (byteB isLet) :=
  ctr_of_ax (env_ok tys_ok (eqs := []) trivial (cs := []) trivial) mixed _ Tryd.func35 (by kernel_rfl) rfl (fun _ _ => Nat.le_of_ble_eq_true rfl) fun (c : UInt8) id _ => by
    refine ⟨?_, ?_⟩
    · skip
      intro h -- decide (↑c.toNat ≥ 97) = true
      refine ⟨?_, ?_⟩
      · skip
        intro h -- decide (↑c.toNat ≤ 122) = true
        exact ⟨.btt (by simp [isLet] at *; omega), rfl⟩
      · skip
        intro h -- decide (↑c.toNat ≤ 122) = false
        refine ⟨?_, ?_⟩
        · skip
          intro h -- decide (↑c.toNat ≥ 65) = true
          refine ⟨?_, ?_⟩
          · skip
            intro h -- decide (↑c.toNat ≤ 90) = true
            exact ⟨.btt (by simp [isLet] at *; omega), rfl⟩
          · skip
            intro h -- decide (↑c.toNat ≤ 90) = false
            exact ⟨.bool (by rw [Bool.eq_iff_iff]; simp [isLet] at *; omega), rfl⟩
        · skip
          intro h -- decide (↑c.toNat ≥ 65) = false
          exact ⟨.bool (by rw [Bool.eq_iff_iff]; simp [isLet] at *; omega), rfl⟩
    · skip
      intro h -- decide (↑c.toNat ≥ 97) = false
      refine ⟨?_, ?_⟩
      · skip
        intro h -- decide (↑c.toNat ≥ 65) = true
        refine ⟨?_, ?_⟩
        · skip
          intro h -- decide (↑c.toNat ≤ 90) = true
          exact ⟨.btt (by simp [isLet] at *; omega), rfl⟩
        · skip
          intro h -- decide (↑c.toNat ≤ 90) = false
          exact ⟨.bool (by rw [Bool.eq_iff_iff]; simp [isLet] at *; omega), rfl⟩
      · skip
        intro h -- decide (↑c.toNat ≥ 65) = false
        exact ⟨.bool (by rw [Bool.eq_iff_iff]; simp [isLet] at *; omega), rfl⟩
theorem rdigit_ok : CtrSound Tryd.prog 36 (byteB isDig) :=
  ctr_of_ax (env_ok tys_ok (eqs := []) trivial (cs := []) trivial) mixed _ Tryd.func36 (by kernel_rfl) rfl (fun _ _ => Nat.le_of_ble_eq_true rfl) fun (c : UInt8) id _ => by
    refine ⟨?_, ?_⟩
    · skip
      intro h -- decide (↑c.toNat ≥ 48) = true
      exact ⟨.bool (by rw [Bool.eq_iff_iff]; simp [isDig] at *; omega), rfl⟩
    · skip
      intro h -- decide (↑c.toNat ≥ 48) = false
      exact ⟨.bff (by simp [isDig] at *; omega), rfl⟩
theorem u8_eq {a b : UInt8} : (a == b) = decide (a.toNat = b.toNat) := by
  rw [Bool.eq_iff_iff]; simp [UInt8.toNat_inj]
theorem blank_eq (c : UInt8) : isBlank c = decide (c.toNat = 32 ∨ c.toNat = 9 ∨ c.toNat = 10 ∨ c.toNat = 13) := by
  rw [Bool.eq_iff_iff]
  simp [isBlank, blanksL, List.contains_cons, ← UInt8.toNat_inj]
theorem sign_eq (c : UInt8) : isSign c = decide (c.toNat = 123 ∨ c.toNat = 125 ∨ c.toNat = 40 ∨ c.toNat = 41 ∨ c.toNat = 58 ∨ c.toNat = 59 ∨ c.toNat = 44 ∨ c.toNat = 91 ∨ c.toNat = 93) := by
  rw [Bool.eq_iff_iff]
  simp [isSign, signsL, List.contains_cons, ← UInt8.toNat_inj]
theorem rblank_ok : CtrSound Tryd.prog 34 (byteB isBlank) :=
  ctr_of_ax (env_ok tys_ok (eqs := []) trivial (cs := []) trivial) mixed _ Tryd.func34 (by kernel_rfl) rfl (fun _ _ => Nat.le_of_ble_eq_true rfl) fun (c : UInt8) id _ => by
    refine ⟨?_, ?_⟩
    · skip
      intro h -- (↑c.toNat == 32) = true
      exact ⟨.btt (by rw [blank_eq]; simp at *; omega), rfl⟩
    · skip
      intro h -- (↑c.toNat == 32) = false
      refine ⟨?_, ?_⟩
      · skip
        intro h -- (↑c.toNat == 9) = true
        exact ⟨.btt (by rw [blank_eq]; simp at *; omega), rfl⟩
      · skip
        intro h -- (↑c.toNat == 9) = false
        refine ⟨?_, ?_⟩
        · skip
          intro h -- (↑c.toNat == 10) = true
          exact ⟨.btt (by rw [blank_eq]; simp at *; omega), rfl⟩
        · skip
          intro h -- (↑c.toNat == 10) = false
          exact ⟨.bool (by rw [blank_eq, Bool.eq_iff_iff]; simp at *; omega), rfl⟩
/-- is it one of these bytes? -/
theorem idx_has (l : List UInt8) (c : UInt8) : decide (Lib.indexByte l c ≥ 0) = l.contains c := by
  rw [Bool.eq_iff_iff]
  simp only [decide_eq_true_eq]
  induction l with
  | nil => simp [Lib.indexByte]
  | cons b l ih =>
    have := Lib.indexByte_ge l c
    unfold Lib.indexByte
    by_cases h : b = c
    · subst h; simp
    · have h1 : (b == c) = false := by simpa using h
      have h2 : (c == b) = false := by simpa using fun e => h e.symm
      simp only [h1, List.contains_cons, h2, Bool.false_or]
      rw [← ih]
      by_cases h3 : Lib.indexByte l c = -1
      · simp [h3]
      · have h4 : (Lib.indexByte l c == -1) = false := by simpa using h3
        simp [h4]
        omega
def signsB : ByteArray := ⟨#[123, 125, 40, 41, 58, 59, 44, 91, 93]⟩
theorem rsign_ok : CtrSound Tryd.prog 31 (byteB isSign) :=
  ctr_of_ax (env_ok tys_ok (eqs := []) trivial (cs := []) trivial) mixed _ Tryd.func31 (by kernel_rfl) rfl (fun _ _ => Nat.le_of_ble_eq_true rfl) fun (c : UInt8) id _ => by
    refine ⟨Nat, fun i => [(0, Y c), (3, S signsB), (4, I i)], fun _ => [], fun i => i ≤ 9 ∧ ∀ j, j < i → byteAt signsB j ≠ (c.toNat : Int), fun i => 9 - i, ⟨0, ⟨Nat.zero_le _, fun j hj => by omega⟩, ⟨⟨rfl, rfl⟩, ?_⟩⟩, fun (i : Nat) hi => ?_⟩
    · exact ⟨.refl _, .refl _, .refl _, trivial⟩
    have hil := hi.1
    have hn := hi.2
    have hs : signsB.size = 9 := rfl
    have hwj : IntKind.i64.wrap ((i : Int) + 1) = ((i + 1 : Nat) : Int) := by rw [wrap_eq _ (by omega) (by omega)]; omega
    have hat : ∀ j, j < 9 → (byteAt signsB j = (c.toNat : Int) → isSign c = true) := fun j hj h => by
      rw [sign_eq]
      match j, hj with
      | 0, _ | 1, _ | 2, _ | 3, _ | 4, _ | 5, _ | 6, _ | 7, _ | 8, _ => simp [byteAt, signsB] at h; simp; omega
    have hall : i = 9 → isSign c = false := fun h => by
      subst h
      have h0 := hn 0 (by omega); have h1 := hn 1 (by omega); have h2 := hn 2 (by omega); have h3 := hn 3 (by omega); have h4 := hn 4 (by omega); have h5 := hn 5 (by omega); have h6 := hn 6 (by omega); have h7 := hn 7 (by omega); have h8 := hn 8 (by omega)
      rw [sign_eq]
      simp [byteAt, signsB] at h0 h1 h2 h3 h4 h5 h6 h7 h8
      simp; omega
    refine ⟨?_, ?_⟩
    · skip
      intro h -- decide (↑i < ↑signsB.size) = true
      refine ⟨?_, ?_⟩
      · (simp at *; omega)
      · skip
        refine ⟨?_, ?_⟩
        · skip
          intro h -- (byteAt signsB (↑i).toNat == ↑c.toNat) = true
          exact ⟨.btt (hat i (by simp at *; omega) (by simpa using h)), rfl⟩
        · skip
          intro h -- (byteAt signsB (↑i).toNat == ↑c.toNat) = false
          exact ⟨i + 1, ⟨by simp [hs] at *; omega, fun j hj => by rcases Nat.lt_succ_iff_lt_or_eq.1 hj with q | rfl; exact hn j q; (simpa using h)⟩, by (have : i < 9 := by simp [hs] at *; omega); show 9 - (i + 1) < 9 - i; omega, ⟨rfl, rfl⟩, .refl _, .refl _, .int hwj, trivial⟩
    · skip
      intro h -- decide (↑i < ↑signsB.size) = false
      exact ⟨.bff (hall (by simp [hs] at *; omega)), rfl⟩
end Go.Proofs.YtjbpgfcoeaapjaaDoor.Ax
