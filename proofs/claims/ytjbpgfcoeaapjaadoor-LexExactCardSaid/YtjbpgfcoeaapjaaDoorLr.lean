/- Layer lex: numbers, words back, two lists, what is wrong (the statements). -/
import Derived.Test.YtjbpgfcoeaapjaaDoorLq
set_option linter.unusedVariables false
set_option linter.unusedSimpArgs false
namespace Go.Proofs.YtjbpgfcoeaapjaaDoor.Ax
open Go Go.RowKit
theorem dd_zero (u : Nat) : ∀ r, Lib.decDigits u = 48 :: r → r = [] := by
  intro r h
  by_cases hr : r = []
  · exact hr
  · exfalso
    have hm : ∀ u, 0 < u → ∀ r, Lib.decDigits u ≠ 48 :: r := by
      intro u
      induction u using Nat.strongRecOn with
      | _ u ih =>
        intro hu r h
        by_cases hlt : u < 10
        · rw [Lib.decDigits, dif_pos hlt] at h
          have h1 : (UInt8.ofNat (48 + u)).toNat = 48 + u := by rw [UInt8.toNat_ofNat']; omega
          have h2 : UInt8.ofNat (48 + u) = 48 := by simpa using congrArg (fun l => l.getD 0 0) h
          rw [h2] at h1
          have : (48 : UInt8).toNat = 48 := rfl
          omega
        · rw [Lib.decDigits, dif_neg hlt] at h
          obtain ⟨b, q, e, -⟩ := dd_head (u / 10)
          rw [e, List.cons_append, List.cons.injEq] at h
          rw [h.1] at e
          exact ih (u / 10) (by omega) (by omega) q e
    rcases Nat.eq_zero_or_pos u with rfl | hu
    · rw [Lib.decDigits, dif_pos (by omega)] at h
      have h : [UInt8.ofNat (48 + 0)] = 48 :: r := h
      exact hr (List.cons.inj h).2.symm
    · exact hm u hu r h
theorem num_itoa (n : Int) : numF (Lib.itoa n) = if inR n then some n else none := by
  by_cases h : inR n
  · rw [if_pos h, (numF_iff _ _).2 ⟨rfl, h⟩]
  · rw [if_neg h, numF_none]
    rintro m ⟨e, hm⟩
    exact h (itoa_inj e ▸ hm)
theorem num_nought (n : Int) : numF (48 :: Lib.itoa n) = none := by
  rw [numF_none]
  rintro m ⟨e, -⟩
  rcases itoa_form m with ⟨b, r, h, -, -⟩ | ⟨b, r, h, -, -⟩
  · unfold Lib.itoa at e
    split at e
    · simp at e
    · have := dd_zero _ _ e
      exact itoa_ne n this
  · rw [h] at e; simp at e
theorem num_plus (l : List UInt8) : numF (43 :: l) = none := by
  rw [numF_none]
  rintro m ⟨e, -⟩
  rcases itoa_form m with ⟨b, r, h, hb, -⟩ | ⟨b, r, h, -, -⟩
  · rw [h, List.cons.injEq] at e
    rw [e.1] at hb; exact absurd hb (by decide)
  · rw [h] at e; simp at e
theorem num_blank (l : List UInt8) : numF (l ++ [32]) = none := by
  rw [numF_none]
  rintro m ⟨e, -⟩
  have h32 : (32 : UInt8) ∈ Lib.itoa m := by rw [e]; simp
  rcases itoa_form m with ⟨b, r, h, hb, hr⟩ | ⟨b, r, h, hb, hr⟩ <;> rw [h] at h32
  · rcases List.mem_cons.1 h32 with c | c
    · rw [← c] at hb; exact absurd hb (by decide)
    · exact absurd (List.all_eq_true.1 hr _ c) (by decide)
  · rcases List.mem_cons.1 h32 with c | c
    · exact absurd c (by decide)
    · rcases List.mem_cons.1 c with c | c
      · rw [← c] at hb; exact absurd hb (by decide)
      · exact absurd (List.all_eq_true.1 hr _ c) (by decide)
theorem num_neg0 : numF [45, 48] = none := by decide +kernel
def LexNums : Ctr := { A := Int, enc := fun n => [I n], dom := fun n => True, res := fun _ _ => .tt, gl := tabs }
set_option maxRecDepth 100000 in
set_option maxHeartbeats 4000000 in
theorem LexNums_ok : CtrSound Tryd.prog 3 LexNums :=
  ctr_of_ax (env_okB tys_ok (eqs := []) trivial (cs := [(12, digitsC), (13, numC), (14, wakesC)]) ⟨digits_ok, num_ok, wakes_ok, trivial⟩ (bs := []) trivial (gl := tabs)) mixed _ Tryd.func3 (by kernel_rfl) rfl (fun _ _ => Nat.le_of_ble_eq_true rfl) fun (n0 : Int) id hd => by
    obtain ⟨n, hn⟩ : ∃ n, n = n0.tmod 17179869184 := ⟨_, rfl⟩
    have hn1 : -17179869184 < n ∧ n < 17179869184 := by
      have h1 := Int.tmod_lt_of_pos n0 (show (0 : Int) < 17179869184 by decide)
      have h2 := Int.lt_tmod_of_pos n0 (show (0 : Int) < 17179869184 by decide)
      omega
    have hlen := dig_lt n (by omega) (by omega)
    have hz := size_txt (Lib.itoa n)
    refine ⟨by decide, ?_⟩
    refine ⟨n, ⟨.int hn.symm, trivial⟩, rfl, (show -4611686018427387904 ≤ n ∧ n ≤ 4611686018427387904 by omega), ?_⟩
    refine ⟨Lib.itoa n, ⟨.refl _, trivial⟩, rfl, (show (Lib.itoa n).length ≤ 4611686018427387904 by omega), ?_⟩
    have s1 : (⟨#[48]⟩ : ByteArray).size = 1 := rfl
    have s2 : (⟨#[43]⟩ : ByteArray).size = 1 := rfl
    have s3 : (⟨#[32]⟩ : ByteArray).size = 1 := rfl
    have e1 := num_nought n
    have e2 := num_neg0
    have e3 := num_plus (Lib.itoa n)
    have e4 := num_blank (Lib.itoa n)
    have e5 := numC_none
    have e0 := num_itoa n
    have tl : ∀ {P1 P2 P3 : Prop}, P1 → P2 → P3 → P1 ∧ P2 ∧ P3 := fun a b c => ⟨a, b, c⟩
    by_cases hr : inR n
    · rw [if_pos hr] at e0
      unfold inR at hr
      rw [hn] at hr e0
      have e01 : (numF (Lib.itoa n)).isSome = true := by rw [hn, e0]; rfl
      have e02 : (numF (Lib.itoa n)).getD 0 = n0.tmod 17179869184 := by rw [hn, e0]; rfl
      refine ⟨fun h => ?_, fun h => absurd (of_decide_eq_false h) (by omega)⟩
      refine ⟨by rw [hz]; omega, ?_⟩
      refine ⟨48 :: Lib.itoa n, ⟨.str (txt_app [48] _), trivial⟩, rfl, (show (48 :: Lib.itoa n).length ≤ 4611686018427387904 by simp; omega), ?_⟩
      refine ⟨[45, 48], ⟨.refl _, trivial⟩, rfl, (show [(45 : UInt8), 48].length ≤ 4611686018427387904 by decide), ?_⟩
      refine ⟨by rw [hz]; omega, ?_⟩
      refine ⟨43 :: Lib.itoa n, ⟨.str (txt_app [43] _), trivial⟩, rfl, (show (43 :: Lib.itoa n).length ≤ 4611686018427387904 by simp; omega), ?_⟩
      refine ⟨by rw [hz]; omega, ?_⟩
      refine ⟨Lib.itoa n ++ [32], ⟨.str (txt_app _ [32]), trivial⟩, rfl, (show (Lib.itoa n ++ [32]).length ≤ 4611686018427387904 by simp; omega), ?_⟩
      refine ⟨[], ⟨.refl _, trivial⟩, rfl, (show ([] : List UInt8).length ≤ 4611686018427387904 by decide), ?_⟩
      refine ⟨?_, ?_⟩
      · skip
        intro h -- ((numF (Lib.itoa n)).isSome == decide (n0.tmod 17179869184 ≤ 2147483647)) = true
        refine ⟨?_, ?_⟩
        · skip
          intro h -- (!(numF (Lib.itoa n)).isSome) = true
          exact absurd h (by first | (rw [e1]; decide) | (rw [e2]; decide) | (rw [e3]; decide) | (rw [e4]; decide) | (rw [e5]; decide) | (rw [e01]; decide) | (rw [e01]; simp; omega) | (rw [e02]; simp) | (show ¬ (!(numF (Lib.itoa n ++ [32])).isSome) = false; rw [e4]; decide))
        · skip
          intro h -- (!(numF (Lib.itoa n)).isSome) = false
          refine ⟨?_, ?_⟩
          · skip
            intro h -- (numF (Lib.itoa n)).isSome = true
            refine ⟨?_, ?_⟩
            · skip
              intro h -- ((numF (Lib.itoa n)).getD 0 == n0.tmod 17179869184) = true
              refine ⟨?_, ?_⟩
              · skip
                intro h -- (!(numF (48 :: Lib.itoa n)).isSome) = true
                refine ⟨?_, ?_⟩
                · skip
                  intro h -- (!(numF [45, 48]).isSome) = true
                  refine ⟨?_, ?_⟩
                  · skip
                    intro h -- (!(numF (43 :: Lib.itoa n)).isSome) = true
                    refine ⟨?_, ?_⟩
                    · skip
                      intro h -- (!(numF (Lib.itoa n ++ [32])).isSome) = true
                      refine ⟨?_, ?_⟩
                      · skip
                        intro h -- (!(numF []).isSome) = true
                        refine ⟨(), trivial, rfl, trivial, ?_⟩
                        exact ⟨.refl _, rfl⟩
                      · skip
                        intro h -- (!(numF []).isSome) = false
                        exact absurd h (by first | (rw [e1]; decide) | (rw [e2]; decide) | (rw [e3]; decide) | (rw [e4]; decide) | (rw [e5]; decide) | (rw [e01]; decide) | (rw [e01]; simp; omega) | (rw [e02]; simp) | (show ¬ (!(numF (Lib.itoa n ++ [32])).isSome) = false; rw [e4]; decide))
                    · skip
                      intro h -- (!(numF (Lib.itoa n ++ [32])).isSome) = false
                      exact absurd h (by first | (rw [e1]; decide) | (rw [e2]; decide) | (rw [e3]; decide) | (rw [e4]; decide) | (rw [e5]; decide) | (rw [e01]; decide) | (rw [e01]; simp; omega) | (rw [e02]; simp) | (show ¬ (!(numF (Lib.itoa n ++ [32])).isSome) = false; rw [e4]; decide))
                  · skip
                    intro h -- (!(numF (43 :: Lib.itoa n)).isSome) = false
                    exact absurd h (by first | (rw [e1]; decide) | (rw [e2]; decide) | (rw [e3]; decide) | (rw [e4]; decide) | (rw [e5]; decide) | (rw [e01]; decide) | (rw [e01]; simp; omega) | (rw [e02]; simp) | (show ¬ (!(numF (Lib.itoa n ++ [32])).isSome) = false; rw [e4]; decide))
                · skip
                  intro h -- (!(numF [45, 48]).isSome) = false
                  exact absurd h (by first | (rw [e1]; decide) | (rw [e2]; decide) | (rw [e3]; decide) | (rw [e4]; decide) | (rw [e5]; decide) | (rw [e01]; decide) | (rw [e01]; simp; omega) | (rw [e02]; simp) | (show ¬ (!(numF (Lib.itoa n ++ [32])).isSome) = false; rw [e4]; decide))
              · skip
                intro h -- (!(numF (48 :: Lib.itoa n)).isSome) = false
                exact absurd h (by first | (rw [e1]; decide) | (rw [e2]; decide) | (rw [e3]; decide) | (rw [e4]; decide) | (rw [e5]; decide) | (rw [e01]; decide) | (rw [e01]; simp; omega) | (rw [e02]; simp) | (show ¬ (!(numF (Lib.itoa n ++ [32])).isSome) = false; rw [e4]; decide))
            · skip
              intro h -- ((numF (Lib.itoa n)).getD 0 == n0.tmod 17179869184) = false
              exact absurd h (by first | (rw [e1]; decide) | (rw [e2]; decide) | (rw [e3]; decide) | (rw [e4]; decide) | (rw [e5]; decide) | (rw [e01]; decide) | (rw [e01]; simp; omega) | (rw [e02]; simp) | (show ¬ (!(numF (Lib.itoa n ++ [32])).isSome) = false; rw [e4]; decide))
          · skip
            intro h -- (numF (Lib.itoa n)).isSome = false
            exact absurd h (by first | (rw [e1]; decide) | (rw [e2]; decide) | (rw [e3]; decide) | (rw [e4]; decide) | (rw [e5]; decide) | (rw [e01]; decide) | (rw [e01]; simp; omega) | (rw [e02]; simp) | (show ¬ (!(numF (Lib.itoa n ++ [32])).isSome) = false; rw [e4]; decide))
      · skip
        intro h -- ((numF (Lib.itoa n)).isSome == decide (n0.tmod 17179869184 ≤ 2147483647)) = false
        exact absurd h (by first | (rw [e1]; decide) | (rw [e2]; decide) | (rw [e3]; decide) | (rw [e4]; decide) | (rw [e5]; decide) | (rw [e01]; decide) | (rw [e01]; simp; omega) | (rw [e02]; simp) | (show ¬ (!(numF (Lib.itoa n ++ [32])).isSome) = false; rw [e4]; decide))
    · rw [if_neg hr] at e0
      unfold inR at hr
      rw [hn] at hr
      have e01 : (numF (Lib.itoa n)).isSome = false := by rw [e0]; rfl
      have e02 : (numF (Lib.itoa n)).getD 0 = 0 := by rw [e0]; rfl
      refine ⟨?_, ?_⟩
      · skip
        intro h -- decide (n0.tmod 17179869184 ≥ -2147483648) = true
        refine ⟨?_, ?_⟩
        · (rw [hz]; omega)
        · skip
          refine ⟨48 :: Lib.itoa n, ⟨.str (txt_app [48] _), trivial⟩, rfl, (show (48 :: Lib.itoa n).length ≤ 4611686018427387904 by simp; omega), ?_⟩
          refine ⟨[45, 48], ⟨.refl _, trivial⟩, rfl, (show [(45 : UInt8), 48].length ≤ 4611686018427387904 by decide), ?_⟩
          refine ⟨?_, ?_⟩
          · (rw [hz]; omega)
          · skip
            refine ⟨43 :: Lib.itoa n, ⟨.str (txt_app [43] _), trivial⟩, rfl, (show (43 :: Lib.itoa n).length ≤ 4611686018427387904 by simp; omega), ?_⟩
            refine ⟨?_, ?_⟩
            · (rw [hz]; omega)
            · skip
              refine ⟨Lib.itoa n ++ [32], ⟨.str (txt_app _ [32]), trivial⟩, rfl, (show (Lib.itoa n ++ [32]).length ≤ 4611686018427387904 by simp; omega), ?_⟩
              refine ⟨[], ⟨.refl _, trivial⟩, rfl, (show ([] : List UInt8).length ≤ 4611686018427387904 by decide), ?_⟩
              refine ⟨?_, ?_⟩
              · skip
                intro h -- ((numF (Lib.itoa n)).isSome == decide (n0.tmod 17179869184 ≤ 2147483647)) = true
                refine ⟨?_, ?_⟩
                · skip
                  intro h -- (!(numF (Lib.itoa n)).isSome) = true
                  refine ⟨?_, ?_⟩
                  · skip
                    intro h -- ((numF (Lib.itoa n)).getD 0 == 0) = true
                    refine ⟨?_, ?_⟩
                    · skip
                      intro h -- (!(numF (48 :: Lib.itoa n)).isSome) = true
                      refine ⟨?_, ?_⟩
                      · skip
                        intro h -- (!(numF [45, 48]).isSome) = true
                        refine ⟨?_, ?_⟩
                        · skip
                          intro h -- (!(numF (43 :: Lib.itoa n)).isSome) = true
                          refine ⟨?_, ?_⟩
                          · skip
                            intro h -- (!(numF (Lib.itoa n ++ [32])).isSome) = true
                            refine ⟨?_, ?_⟩
                            · skip
                              intro h -- (!(numF []).isSome) = true
                              refine ⟨(), trivial, rfl, trivial, ?_⟩
                              exact ⟨.refl _, rfl⟩
                            · skip
                              intro h -- (!(numF []).isSome) = false
                              exact absurd h (by first | (rw [e1]; decide) | (rw [e2]; decide) | (rw [e3]; decide) | (rw [e4]; decide) | (rw [e5]; decide) | (rw [e01]; decide) | (rw [e01]; simp; omega) | (rw [e02]; simp) | (have h1 := of_decide_eq_true ‹decide (n0.tmod 17179869184 ≥ -2147483648) = true›; rw [e01, decide_eq_false (by omega)]; decide) | (show ¬ (!(numF (Lib.itoa n ++ [32])).isSome) = false; rw [e4]; decide))
                          · skip
                            intro h -- (!(numF (Lib.itoa n ++ [32])).isSome) = false
                            exact absurd h (by first | (rw [e1]; decide) | (rw [e2]; decide) | (rw [e3]; decide) | (rw [e4]; decide) | (rw [e5]; decide) | (rw [e01]; decide) | (rw [e01]; simp; omega) | (rw [e02]; simp) | (have h1 := of_decide_eq_true ‹decide (n0.tmod 17179869184 ≥ -2147483648) = true›; rw [e01, decide_eq_false (by omega)]; decide) | (show ¬ (!(numF (Lib.itoa n ++ [32])).isSome) = false; rw [e4]; decide))
                        · skip
                          intro h -- (!(numF (43 :: Lib.itoa n)).isSome) = false
                          exact absurd h (by first | (rw [e1]; decide) | (rw [e2]; decide) | (rw [e3]; decide) | (rw [e4]; decide) | (rw [e5]; decide) | (rw [e01]; decide) | (rw [e01]; simp; omega) | (rw [e02]; simp) | (have h1 := of_decide_eq_true ‹decide (n0.tmod 17179869184 ≥ -2147483648) = true›; rw [e01, decide_eq_false (by omega)]; decide) | (show ¬ (!(numF (Lib.itoa n ++ [32])).isSome) = false; rw [e4]; decide))
                      · skip
                        intro h -- (!(numF [45, 48]).isSome) = false
                        exact absurd h (by first | (rw [e1]; decide) | (rw [e2]; decide) | (rw [e3]; decide) | (rw [e4]; decide) | (rw [e5]; decide) | (rw [e01]; decide) | (rw [e01]; simp; omega) | (rw [e02]; simp) | (have h1 := of_decide_eq_true ‹decide (n0.tmod 17179869184 ≥ -2147483648) = true›; rw [e01, decide_eq_false (by omega)]; decide) | (show ¬ (!(numF (Lib.itoa n ++ [32])).isSome) = false; rw [e4]; decide))
                    · skip
                      intro h -- (!(numF (48 :: Lib.itoa n)).isSome) = false
                      exact absurd h (by first | (rw [e1]; decide) | (rw [e2]; decide) | (rw [e3]; decide) | (rw [e4]; decide) | (rw [e5]; decide) | (rw [e01]; decide) | (rw [e01]; simp; omega) | (rw [e02]; simp) | (have h1 := of_decide_eq_true ‹decide (n0.tmod 17179869184 ≥ -2147483648) = true›; rw [e01, decide_eq_false (by omega)]; decide) | (show ¬ (!(numF (Lib.itoa n ++ [32])).isSome) = false; rw [e4]; decide))
                  · skip
                    intro h -- ((numF (Lib.itoa n)).getD 0 == 0) = false
                    exact absurd h (by first | (rw [e1]; decide) | (rw [e2]; decide) | (rw [e3]; decide) | (rw [e4]; decide) | (rw [e5]; decide) | (rw [e01]; decide) | (rw [e01]; simp; omega) | (rw [e02]; simp) | (have h1 := of_decide_eq_true ‹decide (n0.tmod 17179869184 ≥ -2147483648) = true›; rw [e01, decide_eq_false (by omega)]; decide) | (show ¬ (!(numF (Lib.itoa n ++ [32])).isSome) = false; rw [e4]; decide))
                · skip
                  intro h -- (!(numF (Lib.itoa n)).isSome) = false
                  exact absurd h (by first | (rw [e1]; decide) | (rw [e2]; decide) | (rw [e3]; decide) | (rw [e4]; decide) | (rw [e5]; decide) | (rw [e01]; decide) | (rw [e01]; simp; omega) | (rw [e02]; simp) | (have h1 := of_decide_eq_true ‹decide (n0.tmod 17179869184 ≥ -2147483648) = true›; rw [e01, decide_eq_false (by omega)]; decide) | (show ¬ (!(numF (Lib.itoa n ++ [32])).isSome) = false; rw [e4]; decide))
              · skip
                intro h -- ((numF (Lib.itoa n)).isSome == decide (n0.tmod 17179869184 ≤ 2147483647)) = false
                exact absurd h (by first | (rw [e1]; decide) | (rw [e2]; decide) | (rw [e3]; decide) | (rw [e4]; decide) | (rw [e5]; decide) | (rw [e01]; decide) | (rw [e01]; simp; omega) | (rw [e02]; simp) | (have h1 := of_decide_eq_true ‹decide (n0.tmod 17179869184 ≥ -2147483648) = true›; rw [e01, decide_eq_false (by omega)]; decide) | (show ¬ (!(numF (Lib.itoa n ++ [32])).isSome) = false; rw [e4]; decide))
      · skip
        intro h -- decide (n0.tmod 17179869184 ≥ -2147483648) = false
        refine ⟨?_, ?_⟩
        · (rw [hz]; omega)
        · skip
          refine ⟨48 :: Lib.itoa n, ⟨.str (txt_app [48] _), trivial⟩, rfl, (show (48 :: Lib.itoa n).length ≤ 4611686018427387904 by simp; omega), ?_⟩
          refine ⟨[45, 48], ⟨.refl _, trivial⟩, rfl, (show [(45 : UInt8), 48].length ≤ 4611686018427387904 by decide), ?_⟩
          refine ⟨?_, ?_⟩
          · (rw [hz]; omega)
          · skip
            refine ⟨43 :: Lib.itoa n, ⟨.str (txt_app [43] _), trivial⟩, rfl, (show (43 :: Lib.itoa n).length ≤ 4611686018427387904 by simp; omega), ?_⟩
            refine ⟨?_, ?_⟩
            · (rw [hz]; omega)
            · skip
              refine ⟨Lib.itoa n ++ [32], ⟨.str (txt_app _ [32]), trivial⟩, rfl, (show (Lib.itoa n ++ [32]).length ≤ 4611686018427387904 by simp; omega), ?_⟩
              refine ⟨[], ⟨.refl _, trivial⟩, rfl, (show ([] : List UInt8).length ≤ 4611686018427387904 by decide), ?_⟩
              refine ⟨?_, ?_⟩
              · skip
                intro h -- ((numF (Lib.itoa n)).isSome == false) = true
                refine ⟨?_, ?_⟩
                · skip
                  intro h -- (!(numF (Lib.itoa n)).isSome) = true
                  refine ⟨?_, ?_⟩
                  · skip
                    intro h -- ((numF (Lib.itoa n)).getD 0 == 0) = true
                    refine ⟨?_, ?_⟩
                    · skip
                      intro h -- (!(numF (48 :: Lib.itoa n)).isSome) = true
                      refine ⟨?_, ?_⟩
                      · skip
                        intro h -- (!(numF [45, 48]).isSome) = true
                        refine ⟨?_, ?_⟩
                        · skip
                          intro h -- (!(numF (43 :: Lib.itoa n)).isSome) = true
                          refine ⟨?_, ?_⟩
                          · skip
                            intro h -- (!(numF (Lib.itoa n ++ [32])).isSome) = true
                            refine ⟨?_, ?_⟩
                            · skip
                              intro h -- (!(numF []).isSome) = true
                              refine ⟨(), trivial, rfl, trivial, ?_⟩
                              exact ⟨.refl _, rfl⟩
                            · skip
                              intro h -- (!(numF []).isSome) = false
                              exact absurd h (by first | (rw [e1]; decide) | (rw [e2]; decide) | (rw [e3]; decide) | (rw [e4]; decide) | (rw [e5]; decide) | (rw [e01]; decide) | (rw [e01]; simp; omega) | (rw [e02]; simp) | (have h1 := of_decide_eq_true ‹decide (n0.tmod 17179869184 ≥ -2147483648) = true›; rw [e01, decide_eq_false (by omega)]; decide) | (show ¬ (!(numF (Lib.itoa n ++ [32])).isSome) = false; rw [e4]; decide))
                          · skip
                            intro h -- (!(numF (Lib.itoa n ++ [32])).isSome) = false
                            exact absurd h (by first | (rw [e1]; decide) | (rw [e2]; decide) | (rw [e3]; decide) | (rw [e4]; decide) | (rw [e5]; decide) | (rw [e01]; decide) | (rw [e01]; simp; omega) | (rw [e02]; simp) | (have h1 := of_decide_eq_true ‹decide (n0.tmod 17179869184 ≥ -2147483648) = true›; rw [e01, decide_eq_false (by omega)]; decide) | (show ¬ (!(numF (Lib.itoa n ++ [32])).isSome) = false; rw [e4]; decide))
                        · skip
                          intro h -- (!(numF (43 :: Lib.itoa n)).isSome) = false
                          exact absurd h (by first | (rw [e1]; decide) | (rw [e2]; decide) | (rw [e3]; decide) | (rw [e4]; decide) | (rw [e5]; decide) | (rw [e01]; decide) | (rw [e01]; simp; omega) | (rw [e02]; simp) | (have h1 := of_decide_eq_true ‹decide (n0.tmod 17179869184 ≥ -2147483648) = true›; rw [e01, decide_eq_false (by omega)]; decide) | (show ¬ (!(numF (Lib.itoa n ++ [32])).isSome) = false; rw [e4]; decide))
                      · skip
                        intro h -- (!(numF [45, 48]).isSome) = false
                        exact absurd h (by first | (rw [e1]; decide) | (rw [e2]; decide) | (rw [e3]; decide) | (rw [e4]; decide) | (rw [e5]; decide) | (rw [e01]; decide) | (rw [e01]; simp; omega) | (rw [e02]; simp) | (have h1 := of_decide_eq_true ‹decide (n0.tmod 17179869184 ≥ -2147483648) = true›; rw [e01, decide_eq_false (by omega)]; decide) | (show ¬ (!(numF (Lib.itoa n ++ [32])).isSome) = false; rw [e4]; decide))
                    · skip
                      intro h -- (!(numF (48 :: Lib.itoa n)).isSome) = false
                      exact absurd h (by first | (rw [e1]; decide) | (rw [e2]; decide) | (rw [e3]; decide) | (rw [e4]; decide) | (rw [e5]; decide) | (rw [e01]; decide) | (rw [e01]; simp; omega) | (rw [e02]; simp) | (have h1 := of_decide_eq_true ‹decide (n0.tmod 17179869184 ≥ -2147483648) = true›; rw [e01, decide_eq_false (by omega)]; decide) | (show ¬ (!(numF (Lib.itoa n ++ [32])).isSome) = false; rw [e4]; decide))
                  · skip
                    intro h -- ((numF (Lib.itoa n)).getD 0 == 0) = false
                    exact absurd h (by first | (rw [e1]; decide) | (rw [e2]; decide) | (rw [e3]; decide) | (rw [e4]; decide) | (rw [e5]; decide) | (rw [e01]; decide) | (rw [e01]; simp; omega) | (rw [e02]; simp) | (have h1 := of_decide_eq_true ‹decide (n0.tmod 17179869184 ≥ -2147483648) = true›; rw [e01, decide_eq_false (by omega)]; decide) | (show ¬ (!(numF (Lib.itoa n ++ [32])).isSome) = false; rw [e4]; decide))
                · skip
                  intro h -- (!(numF (Lib.itoa n)).isSome) = false
                  exact absurd h (by first | (rw [e1]; decide) | (rw [e2]; decide) | (rw [e3]; decide) | (rw [e4]; decide) | (rw [e5]; decide) | (rw [e01]; decide) | (rw [e01]; simp; omega) | (rw [e02]; simp) | (have h1 := of_decide_eq_true ‹decide (n0.tmod 17179869184 ≥ -2147483648) = true›; rw [e01, decide_eq_false (by omega)]; decide) | (show ¬ (!(numF (Lib.itoa n ++ [32])).isSome) = false; rw [e4]; decide))
              · skip
                intro h -- ((numF (Lib.itoa n)).isSome == false) = false
                exact absurd h (by first | (rw [e1]; decide) | (rw [e2]; decide) | (rw [e3]; decide) | (rw [e4]; decide) | (rw [e5]; decide) | (rw [e01]; decide) | (rw [e01]; simp; omega) | (rw [e02]; simp) | (have h1 := of_decide_eq_true ‹decide (n0.tmod 17179869184 ≥ -2147483648) = true›; rw [e01, decide_eq_false (by omega)]; decide) | (show ¬ (!(numF (Lib.itoa n ++ [32])).isSome) = false; rw [e4]; decide))
end Go.Proofs.YtjbpgfcoeaapjaaDoor.Ax
