/- Layer lex by the logic: where a word ends. -/
import Derived.Test.YtimhbimpaiiceaaDoorLd
set_option linter.unusedVariables false
set_option linter.unusedSimpArgs false
namespace Go.Proofs.YtimhbimpaiiceaaDoor.Ax
open Go Go.RowKit
theorem tw_len (p : UInt8 → Bool) : ∀ (m : List UInt8) (i : Nat), i ≤ m.length → (∀ j, j < i → p (m.getD j 0) = true) → (i = m.length ∨ p (m.getD i 0) = false) → (m.takeWhile p).length = i
  | [], i, h1, _, _ => by simp at h1; subst h1; rfl
  | c :: m, 0, _, _, h3 => by
    rcases h3 with h3 | h3
    · simp at h3
    · have : p c = false := by simpa using h3
      simp [this]
  | c :: m, i + 1, h1, h2, h3 => by
    have hc : p c = true := by simpa using h2 0 (by omega)
    simp only [List.takeWhile_cons, hc, if_true, List.length_cons]
    rw [tw_len p m i (by simpa using h1) (fun j hj => by simpa using h2 (j + 1) (by omega)) (by rcases h3 with h3 | h3; exact .inl (by simpa using h3); exact .inr (by simpa using h3))]
theorem tw_at (p : UInt8 → Bool) (l : List UInt8) (k n : Nat) (h1 : k ≤ n) (h2 : n ≤ l.length) (h3 : ∀ j, k ≤ j → j < n → p (l.getD j 0) = true) (h4 : n = l.length ∨ p (l.getD n 0) = false) : k + ((l.drop k).takeWhile p).length = n := by
  have hg : ∀ j, (l.drop k).getD j 0 = l.getD (k + j) 0 := fun j => by simp [List.getD, List.getElem?_drop]
  rw [tw_len p (l.drop k) (n - k) (by rw [List.length_drop]; omega) (fun j hj => by rw [hg]; exact h3 _ (by omega) (by omega)) (by
    rw [List.length_drop, hg, show k + (n - k) = n by omega]
    rcases h4 with h4 | h4
    · exact .inl (by omega)
    · exact .inr h4)]
  omega
def minus (l : List UInt8) : Nat := if l.getD 0 0 = 45 then 1 else 0
def wordF (l : List UInt8) : Nat := if l.length = 0 then 0 else if isSign (l.getD 0 0) then 1 else minus l + ((l.drop (minus l)).takeWhile isAl).length
theorem tw_le (p : UInt8 → Bool) (m : List UInt8) : (m.takeWhile p).length ≤ m.length := (List.takeWhile_sublist p).length_le
theorem wordF_le (l : List UInt8) : wordF l ≤ l.length := by
  unfold wordF
  split
  · omega
  · split
    · omega
    · have := tw_le isAl (l.drop (minus l))
      rw [List.length_drop] at this
      unfold minus at *
      split <;> rename_i h <;> simp only [h, if_true, if_false] at * <;> omega
def wordC : Ctr := { A := List UInt8, enc := fun l => [.row UInt8 1 byteC 0 l], dom := fun l => l.length ≤ 1000000, res := fun l _ => I (wordF l) }
set_option maxRecDepth 100000 in
theorem word_ok : CtrSound Tryd.prog 40 wordC :=
  ctr_of_ax (env_okB tys_ok (eqs := []) trivial (cs := [(39, idxC), (30, byteB isLet), (31, byteB isDig)]) ⟨idx_ok, letter_ok, digit_ok, trivial⟩ (bs := []) trivial (cut := [8])) mixed _ Tryd.func40 (by kernel_rfl) rfl (fun _ _ => Nat.le_of_ble_eq_true rfl) fun (l : List UInt8) id hd => by
    have hd : l.length ≤ 1000000 := hd
    refine ⟨fun h => ?_, fun h => ?_⟩
    · have h0 : (l.length : Int) = 0 := by simpa using h
      exact ⟨.int (by unfold wordF; rw [if_pos (by omega)]; rfl), rfl⟩
    have hpos : 0 < l.length := by have h0 : ¬ (l.length : Int) = 0 := by simpa using h
                                   omega
    refine ⟨by omega, ?_⟩
    refine ⟨(signsB, l.getD 0 0), ⟨.refl _, .refl _, trivial⟩, rfl, trivial, ?_⟩
    have hsg : decide (Lib.indexByte signsB.data.toList (l.getD 0 0) ≥ 0) = isSign (l.getD 0 0) := idx_has _ _
    refine ⟨fun h => ?_, fun h => ?_⟩
    · have h : decide (Lib.indexByte signsB.data.toList (l.getD 0 0) ≥ 0) = true := h
      rw [hsg] at h
      exact ⟨.int (by unfold wordF; rw [if_neg (by omega), if_pos h]; rfl), rfl⟩
    have h : decide (Lib.indexByte signsB.data.toList (l.getD 0 0) ≥ 0) = false := h
    rw [hsg] at h
    have hw : wordF l = minus l + ((l.drop (minus l)).takeWhile isAl).length := by unfold wordF; rw [if_neg (by omega), if_neg (by simp only [h]; simp)]
    have hm : minus l ≤ 1 := by unfold minus; split <;> omega
    refine ⟨Unit, fun _ => [(0, .row UInt8 1 byteC 0 l), (3, I (minus l))], fun _ => [], fun _ => True, ?_, fun _ _ => ?_⟩
    · refine ⟨by omega, ?_⟩
      refine ⟨fun h2 => ?_, fun h2 => ?_⟩
      · have e : minus l = 1 := by
          unfold minus
          rw [if_pos]
          have h2 : ((l.getD 0 0).toNat : Int) = 45 := by simpa using h2
          apply UInt8.toNat_inj.1
          show (l.getD 0 0).toNat = 45
          omega
        exact ⟨(), trivial, ⟨rfl, rfl⟩, .refl _, .int (by rw [e]; rfl), trivial⟩
      · have e : minus l = 0 := by
          unfold minus
          rw [if_neg]
          intro c
          have h2 : ¬ ((l.getD 0 0).toNat : Int) = 45 := by simpa using h2
          apply h2
          rw [c]; rfl
        exact ⟨(), trivial, ⟨rfl, rfl⟩, .refl _, .int (by rw [e]; rfl), trivial⟩
    refine ⟨Nat, fun n => [(0, .row UInt8 1 byteC 0 l), (3, I n)], fun _ => [], fun n => minus l ≤ n ∧ n ≤ l.length ∧ ∀ j, minus l ≤ j → j < n → isAl (l.getD j 0) = true, fun n => l.length - n, ⟨minus l, ⟨Nat.le_refl _, by omega, fun j h1 h2 => by omega⟩, ⟨⟨rfl, rfl⟩, .refl _, .refl _, trivial⟩⟩, fun (n : Nat) hi => ?_⟩
    have h1 := hi.1
    have h2 := hi.2.1
    have h3 := hi.2.2
    have hwj : IntKind.i64.wrap ((n : Int) + 1) = ((n + 1 : Nat) : Int) := by rw [wrap_eq _ (by omega) (by omega)]; omega
    have fin : (n = l.length ∨ isAl (l.getD n 0) = false) → wordF l = n := fun h4 => by rw [hw]; exact tw_at isAl l _ n h1 h2 h3 h4
    have nx : isAl (l.getD n 0) = true → ∀ j, minus l ≤ j → j < n + 1 → isAl (l.getD j 0) = true := fun hb j q1 q2 => by
      rcases Nat.lt_succ_iff_lt_or_eq.1 q2 with q | rfl
      · exact h3 j q1 q
      · exact hb
    have di : (n : Int).toNat = n := by omega
    refine ⟨fun h => ?_, fun h => ?_⟩
    · have hlt : n < l.length := by have := of_decide_eq_true h; omega
      refine ⟨by omega, ?_⟩
      refine ⟨l.getD n 0, ⟨.refl _, trivial⟩, rfl, trivial, ?_⟩
      refine ⟨fun h4 => ?_, fun h4 => ?_⟩
      · exact ⟨n + 1, ⟨by omega, hlt, nx (by simp only [isAl]; rw [show isLet (l.getD n 0) = true from h4]; rfl)⟩, by show l.length - (n + 1) < l.length - n; omega, ⟨rfl, rfl⟩, .refl _, .int hwj, trivial⟩
      · refine ⟨by omega, ?_⟩
        refine ⟨l.getD n 0, ⟨.refl _, trivial⟩, rfl, trivial, ?_⟩
        refine ⟨fun h5 => ?_, fun h5 => ?_⟩
        · exact ⟨n + 1, ⟨by omega, hlt, nx (by simp only [isAl]; rw [show isDig (l.getD n 0) = true from h5]; simp)⟩, by show l.length - (n + 1) < l.length - n; omega, ⟨rfl, rfl⟩, .refl _, .int hwj, trivial⟩
        · exact ⟨.int (by rw [fin (.inr (by simp only [isAl]; rw [show isLet (l.getD n 0) = false from h4, show isDig (l.getD n 0) = false from h5]; rfl))]), rfl⟩
    · exact ⟨.int (by rw [fin (.inl (by have := of_decide_eq_false h; omega))]), rfl⟩
end Go.Proofs.YtimhbimpaiiceaaDoor.Ax
