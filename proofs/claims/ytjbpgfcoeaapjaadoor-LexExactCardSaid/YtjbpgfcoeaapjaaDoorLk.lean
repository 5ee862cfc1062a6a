/- Layer lex: the reference's Word and Join. -/
import Derived.Test.YtjbpgfcoeaapjaaDoorLy
set_option linter.unusedVariables false
set_option linter.unusedSimpArgs false
namespace Go.Proofs.YtjbpgfcoeaapjaaDoor.Ax
open Go Go.RowKit
def isWd (a : Int) (b : List UInt8) (n : Int) : Prop := (a = 1 ∧ nameF b = true ∧ n = 0) ∨ (a = 3 ∧ b.length = 1 ∧ isSign (b.getD 0 0) = true ∧ n = 0) ∨ (a = 2 ∧ b = [] ∧ inR n)
theorem wd_is {a n p : Int} {b : List UInt8} : wdOk (a, txt b, n, p) = true ↔ isWd a b n := by
  have hl : (txt b).data.toList = b := by simp [txt]
  constructor
  · intro h
    have ht := wd_tok h
    have h1 : (tokenF (wdS (a, txt b, n, p))).2 = true := by rw [ht]
    by_cases ha : a = 2
    · subst ha
      have hw : wdS (2, txt b, n, p) = Lib.itoa n := if_pos rfl
      rw [hw] at h1 ht
      rcases tok_cases h1 with ⟨m, e, hm⟩ | hn | ⟨h2, h3⟩
      · rw [e, tok_num hm] at ht
        simp only [Prod.mk.injEq] at ht
        refine .inr (.inr ⟨rfl, ?_, ?_⟩)
        · have e2 : (⟨#[]⟩ : ByteArray) = txt b := ht.1.2.1
          rw [← hl, ← e2]
        · rw [itoa_inj e]; exact hm
      · rw [tok_name hn] at ht; simp at ht
      · rw [tok_sign h2 h3] at ht; simp at ht
    · have hw : wdS (a, txt b, n, p) = b := (if_neg ha).trans hl
      rw [hw] at h1 ht
      rcases tok_cases h1 with ⟨m, e, hm⟩ | hn | ⟨h2, h3⟩
      · rw [e, tok_num hm] at ht
        simp only [Prod.mk.injEq] at ht
        exact absurd ht.1.1.symm ha
      · rw [tok_name hn] at ht
        simp only [Prod.mk.injEq] at ht
        exact .inl ⟨ht.1.1.symm, hn, ht.1.2.2.1.symm⟩
      · rw [tok_sign h2 h3] at ht
        simp only [Prod.mk.injEq] at ht
        exact .inr (.inl ⟨ht.1.1.symm, h2, h3, ht.1.2.2.1.symm⟩)
  · rintro (⟨rfl, h1, rfl⟩ | ⟨rfl, h1, h2, rfl⟩ | ⟨rfl, rfl, h⟩)
    · have hw : wdS (1, txt b, 0, p) = b := (if_neg (show ¬ (1 : Int) = 2 by decide)).trans hl
      unfold wdOk; rw [hw, tok_name h1]; simp
    · have hw : wdS (3, txt b, 0, p) = b := (if_neg (show ¬ (3 : Int) = 2 by decide)).trans hl
      unfold wdOk; rw [hw, tok_sign h1 h2]; simp
    · have hw : wdS (2, txt [], n, p) = Lib.itoa n := if_pos rfl
      unfold wdOk; rw [hw, tok_num h]; simp [txt]
theorem wd_no {a n p : Int} {b : List UInt8} (h : ¬ isWd a b n) : wdOk (a, txt b, n, p) = false := by
  cases hc : wdOk (a, txt b, n, p) with
  | false => rfl
  | true => exact absurd (wd_is.1 hc) h
def rwF (t : Int × ByteArray × Int × Int) : List UInt8 := if wdOk t then wdS t else []
def rwdC : Ctr := { A := Int × ByteArray × Int × Int, enc := fun t => [tokS t], dom := okT, res := fun t _ => X (rwF t) }
theorem beqT {a b : Int} (h : (a == b) = true) : a = b := eq_of_beq h
theorem beqF {a b : Int} (h : (a == b) = false) : a ≠ b := fun c => by rw [c] at h; simp at h
set_option maxRecDepth 100000 in
theorem rwd_ok : CtrSound Tryd.prog 16 rwdC :=
  ctr_of_ax (env_okB tys_ok (eqs := []) trivial (cs := [(23, nameC), (31, byteB isSign), (12, digitsC)]) ⟨rname_ok, rsign_ok, digits_ok, trivial⟩ (bs := []) trivial) mixed _ Tryd.func16 (by kernel_rfl) rfl (fun _ _ => Nat.le_of_ble_eq_true rfl) fun ((a, s, n, p) : Int × ByteArray × Int × Int) id hd => by
    have hd : okT (a, s, n, p) := hd
    obtain ⟨h0, h1, h2⟩ := hd
    obtain ⟨b, rfl⟩ : ∃ b : List UInt8, s = txt b := ⟨s.data.toList, rfl⟩
    have hz := size_txt b
    have hbl : b.length ≤ 140737488355328 := by
      have h2 : (⟨b.toArray⟩ : ByteArray).size ≤ 140737488355328 := h2
      omega
    have no : ¬ isWd a b n → Sub (.val (.string ⟨#[]⟩)) (X (rwF (a, txt b, n, p))) := fun h => .str (by unfold rwF; rw [if_neg (by rw [wd_no h]; decide)])
    have yes : a ≠ 2 → isWd a b n → Sub (.val (.string (txt b))) (X (rwF (a, txt b, n, p))) := fun h2 h => .str (by
      unfold rwF
      rw [if_pos (wd_is.2 h), show wdS (a, txt b, n, p) = b from (if_neg h2).trans (by simp [txt])])
    have no13 : a = 1 → ¬ (nameF b = true ∧ n = 0) → ¬ isWd a b n := fun h c d => by
      subst h
      rcases d with ⟨-, d⟩ | ⟨d, -⟩ | ⟨d, -⟩
      · exact c d
      · omega
      · omega
    have no33 : a = 3 → ¬ (b.length = 1 ∧ isSign (b.getD 0 0) = true ∧ n = 0) → ¬ isWd a b n := fun h c d => by
      subst h
      rcases d with ⟨d, -⟩ | ⟨-, d⟩ | ⟨d, -⟩
      · omega
      · exact c d
      · omega
    have no22 : a = 2 → ¬ (b = [] ∧ inR n) → ¬ isWd a b n := fun h c d => by
      subst h
      rcases d with ⟨d, -⟩ | ⟨d, -⟩ | ⟨-, d⟩
      · omega
      · omega
      · exact c d
    refine ⟨fun k1 => ?_, fun k1 => ?_⟩
    · have e1 : a = 1 := beqT k1
      refine ⟨b, ⟨.refl _, trivial⟩, rfl, (show b.length ≤ 4611686018427387904 by omega), ?_⟩
      refine ⟨fun k2 => ?_, fun k2 => ?_⟩
      · refine ⟨fun k3 => ?_, fun k3 => ?_⟩
        · exact ⟨yes (by omega) (.inl ⟨e1, k2, beqT k3⟩), rfl⟩
        · refine ⟨fun k4 => absurd (beqT k4) (by show ¬ a = 3; omega), fun _ => ⟨fun k4 => absurd (beqT k4) (by show ¬ a = 2; omega), fun _ => ?_⟩⟩
          exact ⟨no (no13 e1 fun c => beqF k3 c.2), rfl⟩
      · refine ⟨fun k4 => absurd (beqT k4) (by show ¬ a = 3; omega), fun _ => ⟨fun k4 => absurd (beqT k4) (by show ¬ a = 2; omega), fun _ => ?_⟩⟩
        exact ⟨no (no13 e1 fun c => by rw [c.1] at k2; cases k2), rfl⟩
    have e1 : a ≠ 1 := beqF k1
    refine ⟨fun k1 => ?_, fun k1 => ?_⟩
    · have e3 : a = 3 := beqT k1
      have nx : (¬ (b.length = 1 ∧ isSign (b.getD 0 0) = true ∧ n = 0)) → Sub (.val (.string ⟨#[]⟩)) (X (rwF (a, txt b, n, p))) := fun c => no (no33 e3 c)
      refine ⟨fun k2 => ?_, fun k2 => ?_⟩
      · have hl1 : b.length = 1 := by
          have h : (((⟨b.toArray⟩ : ByteArray).size : Int) == 1) = true := k2
          have := beqT h; omega
        refine ⟨⟨by omega, by show (0 : Int) < ((⟨b.toArray⟩ : ByteArray).size : Int); omega⟩, ?_⟩
        refine ⟨(txt b).data.getD 0 0, ⟨.refl _, trivial⟩, rfl, trivial, ?_⟩
        have ha := at_txt b 0
        refine ⟨fun k3 => ?_, fun k3 => ?_⟩
        · rw [ha] at k3
          refine ⟨fun k4 => ?_, fun k4 => ?_⟩
          · exact ⟨yes (by omega) (.inr (.inl ⟨e3, hl1, k3, beqT k4⟩)), rfl⟩
          · refine ⟨fun k5 => absurd (beqT k5) (by show ¬ a = 2; omega), fun _ => ?_⟩
            exact ⟨nx fun c => beqF k4 c.2.2, rfl⟩
        · rw [ha] at k3
          refine ⟨fun k5 => absurd (beqT k5) (by show ¬ a = 2; omega), fun _ => ?_⟩
          exact ⟨nx fun c => (by rw [c.2.1] at k3; cases k3), rfl⟩
      · refine ⟨fun k5 => absurd (beqT k5) (by show ¬ a = 2; omega), fun _ => ?_⟩
        exact ⟨nx fun c => by
          have h : (((⟨b.toArray⟩ : ByteArray).size : Int) == 1) = false := k2
          have := beqF h; omega, rfl⟩
    have e3 : a ≠ 3 := beqF k1
    refine ⟨fun k1 => ?_, fun k1 => ?_⟩
    · have e2 : a = 2 := beqT k1
      have ht := txt_nil b
      refine ⟨fun k2 => ?_, fun k2 => ?_⟩
      · have hb0 : b = [] := by
          have h : ((txt b).toList == (⟨#[]⟩ : ByteArray).toList) = true := k2
          rw [ht] at h
          exact List.eq_nil_of_length_eq_zero (of_decide_eq_true h)
        refine ⟨fun k3 => ?_, fun k3 => ?_⟩
        · have hlo : n ≥ -2147483648 := of_decide_eq_true k3
          refine ⟨fun k4 => ?_, fun k4 => ?_⟩
          · have hhi : n ≤ 2147483647 := of_decide_eq_true k4
            refine ⟨n, ⟨.refl _, trivial⟩, rfl, (show -4611686018427387904 ≤ n ∧ n ≤ 4611686018427387904 by omega), ?_⟩
            exact ⟨.str (by
              unfold rwF
              rw [if_pos (wd_is.2 (.inr (.inr ⟨e2, hb0, ⟨hlo, hhi⟩⟩))), show wdS (a, txt b, n, p) = Lib.itoa n from if_pos e2]), rfl⟩
          · exact ⟨no (no22 e2 fun c => absurd (of_decide_eq_false k4) (by have := c.2.2; show ¬ ¬ n ≤ 2147483647; omega)), rfl⟩
        · exact ⟨no (no22 e2 fun c => absurd (of_decide_eq_false k3) (by have := c.2.1; show ¬ ¬ n ≥ -2147483648; omega)), rfl⟩
      · exact ⟨no (no22 e2 fun c => by
          have h : ((txt b).toList == (⟨#[]⟩ : ByteArray).toList) = false := k2
          rw [ht, c.1] at h
          exact absurd h (by decide)), rfl⟩
    have e2 : a ≠ 2 := beqF k1
    exact ⟨no fun c => by
      rcases c with ⟨c, -⟩ | ⟨c, -⟩ | ⟨c, -⟩
      · exact e1 c
      · exact e3 c
      · exact e2 c, rfl⟩
end Go.Proofs.YtjbpgfcoeaapjaaDoor.Ax
