/- Numbers as texts: what is written is read. -/
import Derived.Test.YtimhbimpaiiceaaDoorLc
import Derived.Lib.AtoiBound
import Derived.Lib.ItoaLen
set_option linter.unusedVariables false
set_option linter.unusedSimpArgs false
namespace Go.Proofs.YtimhbimpaiiceaaDoor.Ax
open Go Go.RowKit
theorem dig_ofNat {d : Nat} (h : d < 10) : Lib.digitVal (UInt8.ofNat (48 + d)) = some d := by
  have e : (UInt8.ofNat (48 + d)).toNat = 48 + d := by rw [UInt8.toNat_ofNat']; omega
  simp [Lib.digitVal, e]; omega
theorem decFrom_append : ∀ (l r : List UInt8) (a m : Nat), Lib.decFrom a l = some m → Lib.decFrom a (l ++ r) = Lib.decFrom m r
  | [], r, a, m, h => by simp [Lib.decFrom] at h; subst h; rfl
  | b :: l, r, a, m, h => by
    simp only [List.cons_append, Lib.decFrom] at h ⊢
    cases hd : Lib.digitVal b with
    | none => rw [hd] at h; cases h
    | some d => rw [hd] at h; exact decFrom_append l r _ m h
theorem dec_val (u : Nat) : Lib.decFrom 0 (Lib.decDigits u) = some u := by
  induction u using Nat.strongRecOn with
  | _ u ih =>
    by_cases h : u < 10
    · rw [Lib.decDigits, dif_pos h]
      simp only [Lib.decFrom, dig_ofNat h]
      simp
    · rw [Lib.decDigits, dif_neg h, decFrom_append _ _ _ _ (ih (u / 10) (by omega))]
      simp only [Lib.decFrom, dig_ofNat (show u % 10 < 10 by omega)]
      congr 1; omega
theorem dd_ne (u : Nat) : Lib.decDigits u ≠ [] := by
  intro h
  have := Lib.decDigits_length u
  rw [h] at this
  have := Lib.nDigits_pos u
  simp at *; omega
theorem dd_dig (u : Nat) : ∀ b ∈ Lib.decDigits u, isDig b = true := by
  induction u using Nat.strongRecOn with
  | _ u ih =>
    intro b hb
    have key : ∀ d, d < 10 → isDig (UInt8.ofNat (48 + d)) = true := fun d hd => by
      have e : (UInt8.ofNat (48 + d)).toNat = 48 + d := by rw [UInt8.toNat_ofNat']; omega
      simp [isDig, e]; omega
    by_cases h : u < 10
    · rw [Lib.decDigits, dif_pos h] at hb
      obtain rfl := List.mem_singleton.1 hb
      exact key u h
    · rw [Lib.decDigits, dif_neg h] at hb
      rcases List.mem_append.1 hb with hb | hb
      · exact ih _ (by omega) b hb
      · obtain rfl := List.mem_singleton.1 hb
        exact key _ (by omega)
theorem dig_val {b : UInt8} : isDig b = true ↔ ∃ d, Lib.digitVal b = some d := by
  unfold isDig Lib.digitVal
  by_cases h : 48 ≤ b.toNat ∧ b.toNat ≤ 57
  · simp [h]
  · simp [h]
theorem dd_head (u : Nat) : ∃ b r, Lib.decDigits u = b :: r ∧ isDig b = true := by
  cases h : Lib.decDigits u with
  | nil => exact absurd h (dd_ne u)
  | cons b r => exact ⟨b, r, rfl, dd_dig u b (by rw [h]; exact List.mem_cons_self)⟩
theorem dig_ne {b : UInt8} (h : isDig b = true) : (b == 45) = false ∧ (b == 43) = false := by
  have h1 : b.toNat ≠ 45 ∧ b.toNat ≠ 43 := by simp [isDig] at h; omega
  constructor
  · simp; intro c; subst c; exact h1.1 rfl
  · simp; intro c; subst c; exact h1.2 rfl
theorem atoi_itoa (n : Int) : Lib.atoi (Lib.itoa n) = some n := by
  unfold Lib.itoa
  by_cases h : n < 0
  · rw [if_pos h]
    have hne := dd_ne n.natAbs
    simp only [Lib.atoi, beq_self_eq_true, if_true, Lib.decNat, List.isEmpty_iff, hne, if_false, dec_val, Option.map_some]
    congr 1; omega
  · rw [if_neg h]
    obtain ⟨b, r, hb, hd⟩ := dd_head n.toNat
    have hv := dec_val n.toNat
    rw [hb] at hv ⊢
    obtain ⟨h1, h2⟩ := dig_ne hd
    simp only [Lib.atoi, h1, h2, Bool.false_eq_true, if_false, Lib.decNat, List.isEmpty_cons, hv, Option.map_some]
    congr 1; omega
theorem itoa_inj {a b : Int} (h : Lib.itoa a = Lib.itoa b) : a = b := by
  have h1 := atoi_itoa a
  rw [h, atoi_itoa b] at h1
  exact (Option.some.inj h1).symm
theorem itoa_ne (n : Int) : Lib.itoa n ≠ [] := by
  unfold Lib.itoa
  split
  · simp
  · exact dd_ne _
theorem nd_le {u k : Nat} (h : u < 10 ^ k) (hk : 0 < k) : Lib.nDigits u ≤ k := by
  induction k generalizing u with
  | zero => omega
  | succ k ih =>
    by_cases hu : u < 10
    · rw [Lib.nDigits_small hu]; omega
    · rw [Lib.nDigits_big hu]
      have h2 : u / 10 < 10 ^ k := by rw [Nat.pow_succ] at h; omega
      have : 0 < k := by
        rcases Nat.eq_zero_or_pos k with rfl | h3
        · simp at h2; omega
        · exact h3
      have := ih h2 this
      omega
def inR (n : Int) : Prop := -2147483648 ≤ n ∧ n ≤ 2147483647
instance (n : Int) : Decidable (inR n) := by unfold inR; infer_instance
theorem itoa_len {n : Int} (h : inR n) : (Lib.itoa n).length ≤ 11 := by
  unfold inR at h
  unfold Lib.itoa
  split
  · have := nd_le (u := n.natAbs) (k := 10) (by omega) (by omega)
    simp [Lib.decDigits_length]; omega
  · have := nd_le (u := n.toNat) (k := 10) (by omega) (by omega)
    rw [Lib.decDigits_length]; omega
def numF (l : List UInt8) : Option Int := if l.length = 0 ∨ 11 < l.length then none else match Lib.atoi l with
  | none => none
  | some n => if Lib.itoa n = l ∧ inR n then some n else none
theorem numF_iff (l : List UInt8) (n : Int) : numF l = some n ↔ Lib.itoa n = l ∧ inR n := by
  unfold numF
  constructor
  · intro h
    split at h
    · cases h
    · cases ha : Lib.atoi l with
      | none => rw [ha] at h; cases h
      | some m =>
        rw [ha] at h
        simp only at h
        split at h
        · rename_i hc
          cases h
          exact hc
        · cases h
  · rintro ⟨rfl, h⟩
    have h1 := itoa_len h
    have h2 : (Lib.itoa n).length ≠ 0 := fun c => itoa_ne n (List.eq_nil_of_length_eq_zero c)
    rw [if_neg (by omega), atoi_itoa]
    simp [h]
theorem numF_none (l : List UInt8) : numF l = none ↔ ∀ n, ¬ (Lib.itoa n = l ∧ inR n) := by
  constructor
  · intro h n hn
    rw [← numF_iff, h] at hn
    cases hn
  · intro h
    cases hc : numF l with
    | none => rfl
    | some n => exact absurd ((numF_iff l n).1 hc) (h n)
/-- digits without a nought ahead are their number's -/
theorem dd_of : ∀ (t : List UInt8) (m : Nat), Lib.decFrom 0 t = some m → t ≠ [] → (t.length = 1 ∨ t.getD 0 0 ≠ 48) → Lib.decDigits m = t := by
  have main : ∀ (k : Nat) (t : List UInt8), t.length = k → ∀ m, Lib.decFrom 0 t = some m → t ≠ [] → (t.length = 1 ∨ t.getD 0 0 ≠ 48) → Lib.decDigits m = t ∧ (t.getD 0 0 ≠ 48 → 0 < m) := by
    intro k
    induction k with
    | zero => intro t ht m _ hne; exact absurd (List.eq_nil_of_length_eq_zero ht) hne
    | succ k ih =>
      intro t ht m hm hne hz
      obtain ⟨q, b, rfl⟩ : ∃ q b, t = q ++ [b] := ⟨t.dropLast, t.getLast hne, (List.dropLast_concat_getLast hne).symm⟩
      have hq : q.length = k := by simp at ht; omega
      obtain ⟨m1, h1⟩ := Lib.decFrom_prefix _ _ _ hm q.length
      rw [List.take_left] at h1
      rw [decFrom_append _ _ _ _ h1] at hm
      simp only [Lib.decFrom] at hm
      cases hb : Lib.digitVal b with
      | none => rw [hb] at hm; cases hm
      | some d =>
        rw [hb] at hm
        simp only [Option.some.injEq] at hm
        obtain ⟨e1, e2, e3⟩ := Lib.digitVal_eq hb
        have hbe : UInt8.ofNat (48 + d) = b := by
          apply UInt8.toNat_inj.1
          rw [UInt8.toNat_ofNat']; omega
        cases q with
        | nil =>
          simp [Lib.decFrom] at h1
          subst h1
          simp only [Nat.zero_mul, Nat.zero_add] at hm
          subst hm
          refine ⟨?_, fun h => ?_⟩
          · rw [Lib.decDigits, dif_pos (by omega), hbe]; rfl
          · simp only [List.nil_append, List.getD_cons_zero] at h
            rcases Nat.eq_zero_or_pos d with h0 | h0
            · subst h0
              exact absurd hbe.symm h
            · exact h0
        | cons c q' =>
          have hz' : (c :: q').getD 0 0 ≠ 48 := by
            rcases hz with hz | hz
            · simp at hz
            · simpa using hz
          obtain ⟨i1, i2⟩ := ih (c :: q') hq m1 h1 (by simp) (.inr hz')
          have hpos := i2 hz'
          refine ⟨?_, fun _ => by omega⟩
          rw [Lib.decDigits, dif_neg (by omega), show m / 10 = m1 by omega, i1, show m % 10 = d by omega, hbe]
  intro t m h1 h2 h3
  exact (main t.length t rfl m h1 h2 h3).1
theorem numC_none : (numF []) = none := by simp [numF]
end Go.Proofs.YtimhbimpaiiceaaDoor.Ax
