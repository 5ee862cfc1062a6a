/- Layer term by the logic: TermValues. -/
import Derived.Test.YtddcbnillkefhaaPd
set_option linter.unusedVariables false
set_option linter.unusedSimpArgs false
namespace Go.Proofs.Ytddcbnillkefhaa.Ax
open Go Go.RowKit
theorem eqz {x : Int} (h : (x != 0) = false) : x = 0 := by simpa using h
theorem bb' {b : Bool} (h : b = true) (h2 : b = false) : False := by rw [h] at h2; cases h2
theorem ord_scL (k : Int) : ∀ (l : List (Int × Int)) (lo : Int), ord lo l → (scL k l).2 = true → ord lo (scL k l).1
  | [], _, _, _ => by simp [scL, ord]
  | m :: r, lo, h, hs => by
    obtain ⟨h1, h2, h3, h4, h5, h6⟩ := h
    rw [scL] at hs ⊢
    have hs := Bool.and_eq_true_iff.1 hs
    have t := times_ok m.2 k 1048576 (by omega) (by omega) hs.1
    have ih := ord_scL k r m.1 h6 hs.2
    dsimp only
    unfold keep
    split
    · exact ord_weak _ (by omega) ih
    · rename_i c
      exact ⟨h1, h2, c, by dsimp only; rw [t.1]; omega, by dsimp only; rw [t.1]; omega, ih⟩
theorem scale_right {a : Int × List (Int × Int)} {k : Int} (h : (scaleF a k).2 = 0) : right (scaleF a k).1 := by
  obtain ⟨h1, h2, h3, h4⟩ := scale_ok h
  obtain ⟨a1, a2, a3⟩ := (right_iff a).1 h1
  have t := times_ok a.1 k _ (by omega) (by omega) h2
  rw [h4]
  refine (right_iff _).2 ⟨⟨by dsimp only; rw [t.1]; omega, by dsimp only; rw [t.1]; omega⟩, Nat.le_trans (scL_len k a.2) a2, ord_scL k a.2 _ a3 h3⟩
theorem mod1024 (k : Int) : -1024 ≤ k.tmod 1024 ∧ k.tmod 1024 ≤ 1024 := by
  have h1 := Int.natAbs_tmod k 1024
  have h2 : k.natAbs % 1024 < 1024 := Nat.mod_lt _ (by omega)
  have h3 : (k.tmod 1024).natAbs = k.natAbs % 1024 := by rw [h1]; rfl
  omega
def TermValues : Ctr := { A := (Int × List (Int × Int)) × (Int × List (Int × Int)) × Int × Int × List Int, enc := fun x => [termS x.1, termS x.2.1, I x.2.2.1, I x.2.2.2.1, ints x.2.2.2.2], dom := fun _ => True, res := fun _ _ => .tt }
set_option maxRecDepth 100000 in
set_option maxHeartbeats 8000000 in
theorem TermValues_ok : CtrSound Try.prog 5 TermValues :=
  ctr_of_ax (env_okB tys_ok (eqs := []) trivial (cs := [(14, Heavy13), (16, term_Value), (17, ref_Told), (10, term_Add), (9, term_Scale), (18, term_Put), (12, term_K), (13, wakes13)]) ⟨Heavy13_ok, term_Value_ok, ref_Told_ok, term_Add_ok, term_Scale_ok, term_Put_ok, term_K_ok, wakes13_ok, trivial⟩ (bs := []) trivial (cut := [7, 12, 18])) mixed _ Try.func5 (by kernel_rfl) rfl (fun _ _ => Nat.le_of_ble_eq_true rfl) fun ((a, b, k, u, v) : (Int × List (Int × Int)) × (Int × List (Int × Int)) × Int × Int × List Int) id hd => by
    refine ⟨a, ⟨.refl _, trivial⟩, rfl, trivial, fun h1 => ?_, fun h1 => ?_⟩
    · exact ⟨.refl _, rfl⟩
    refine ⟨b, ⟨.refl _, trivial⟩, rfl, trivial, fun h2 => ?_, fun h2 => ?_⟩
    · exact ⟨.refl _, rfl⟩
    refine ⟨fun h3 => ?_, fun h3 => ?_⟩
    · exact ⟨.refl _, rfl⟩
    have hlen : v.length ≤ 80 := by have := of_decide_eq_false h3; dsimp only at this; omega
    have hlb : v.length ≤ 4611686018427387904 := by omega
    refine ⟨(a, v), ⟨.refl _, .refl _, trivial⟩, rfl, hlb, ?_⟩
    refine ⟨(b, v), ⟨.refl _, .refl _, trivial⟩, rfl, hlb, ?_⟩
    refine ⟨Unit, fun _ => [(2, I k), (3, I u), (4, ints v), (5, .box 5 0), (6, .box 6 0), (11, I (valueF a v).1), (13, I (valueF b v).1)], fun _ => [(5, termC a), (6, termC b)], fun _ => (valueF a v).2 = 0 ∧ (valueF b v).2 = 0, ?_, fun _ hf => ?_⟩
    · refine ⟨?_, ?_⟩
      · skip
        intro h -- ((valueF (a, v).fst (a, v).snd).snd != 0) = true
        dsimp only at h
        refine ⟨(a, v), ⟨.refl _, .refl _, trivial⟩, rfl, hlb, ?_⟩
        refine ⟨?_, ?_⟩
        · skip
          intro h -- ((valueF (a, v).fst (a, v).snd).snd != 0) = true
          dsimp only at h
          exact ⟨.refl _, rfl⟩
        · skip
          intro h -- ((valueF (a, v).fst (a, v).snd).snd != 0) = false
          dsimp only at h
          (exact (bb' ‹_› h).elim)
      · skip
        intro h -- ((valueF (a, v).fst (a, v).snd).snd != 0) = false
        dsimp only at h
        refine ⟨?_, ?_⟩
        · skip
          intro h -- ((valueF (b, v).fst (b, v).snd).snd != 0) = true
          dsimp only at h
          refine ⟨(a, v), ⟨.refl _, .refl _, trivial⟩, rfl, hlb, ?_⟩
          refine ⟨?_, ?_⟩
          · skip
            intro h -- ((valueF (a, v).fst (a, v).snd).snd != 0) = true
            dsimp only at h
            exact ⟨.refl _, rfl⟩
          · skip
            intro h -- ((valueF (a, v).fst (a, v).snd).snd != 0) = false
            dsimp only at h
            refine ⟨(b, v), ⟨.refl _, .refl _, trivial⟩, rfl, hlb, ?_⟩
            exact ⟨.toTT ‹((valueF b v).2 != 0) = true›, rfl⟩
        · skip
          intro h -- ((valueF (b, v).fst (b, v).snd).snd != 0) = false
          dsimp only at h
          refine ⟨(a, v), ⟨.refl _, .refl _, trivial⟩, rfl, hlb, ?_⟩
          refine ⟨?_, ?_⟩
          · skip
            intro h -- ((valueF (a, v).fst (a, v).snd).snd != 0) = true
            dsimp only at h
            refine ⟨(a, v), ⟨.refl _, .refl _, trivial⟩, rfl, hlb, ?_⟩
            refine ⟨?_, ?_⟩
            · skip
              intro h -- ((valueF (a, v).fst (a, v).snd).snd != 0) = true
              dsimp only at h
              exact ⟨.refl _, rfl⟩
            · skip
              intro h -- ((valueF (a, v).fst (a, v).snd).snd != 0) = false
              dsimp only at h
              (exact (bb' ‹_› h).elim)
          · skip
            intro h -- ((valueF (a, v).fst (a, v).snd).snd != 0) = false
            dsimp only at h
            refine ⟨(b, v), ⟨.refl _, .refl _, trivial⟩, rfl, hlb, ?_⟩
            refine ⟨?_, ?_⟩
            · skip
              intro h -- ((valueF (b, v).fst (b, v).snd).snd != 0) = true
              dsimp only at h
              refine ⟨(a, v), ⟨.refl _, .refl _, trivial⟩, rfl, hlb, ?_⟩
              refine ⟨?_, ?_⟩
              · skip
                intro h -- ((valueF (a, v).fst (a, v).snd).snd != 0) = true
                dsimp only at h
                exact ⟨.refl _, rfl⟩
              · skip
                intro h -- ((valueF (a, v).fst (a, v).snd).snd != 0) = false
                dsimp only at h
                refine ⟨(b, v), ⟨.refl _, .refl _, trivial⟩, rfl, hlb, ?_⟩
                exact ⟨.toTT ‹((valueF b v).2 != 0) = true›, rfl⟩
            · skip
              intro h -- ((valueF (b, v).fst (b, v).snd).snd != 0) = false
              dsimp only at h
              exact ⟨(), ⟨eqz ‹((valueF a v).2 != 0) = false›, eqz ‹((valueF b v).2 != 0) = false›⟩, ⟨rfl, rfl⟩, .refl _, .refl _, .refl _, .refl _, .refl _, .refl _, .refl _, ⟨.refl _, .refl _, trivial⟩, ⟨.refl _, .refl _, trivial⟩, trivial⟩
    obtain ⟨f1, f2⟩ := hf
    have ta := value_told f1
    have tb := value_told f2
    have oa : okT v a := ⟨ta.1, ta.2.1⟩
    have ob : okT v b := ⟨tb.1, tb.2.1⟩
    have hW := ta.2.2.1
    have ea : (valueF a v).1 = valT v a := by rw [ta.2.2.2]; rfl
    have eb : (valueF b v).1 = valT v b := by rw [tb.2.2.2]; rfl
    have ba := valT_bound oa hW
    have bb := valT_bound ob hW
    have vo : ∀ t, okT v t → valueF t v = (valT v t, 0) := fun t h => value_of h.1 h.2 hW
    have qA : (addF a b).2 = 0 → valueF (addF a b).1 v = (IntKind.i64.wrap ((valueF a v).1 + (valueF b v).1), 0) := fun h => by
      obtain ⟨r1, r2⟩ := add_val h oa ob
      rw [vo _ r1, r2, ea, eb, wrap_eq _ (by omega) (by omega)]
    have qS : ∀ q, (scaleF a q).2 = 0 → valueF (scaleF a q).1 v = (IntKind.i64.wrap (q * (valueF a v).1), 0) := fun q h => by
      obtain ⟨r1, r2⟩ := scale_val h oa (scale_right h)
      have := valT_bound r1 hW
      rw [vo _ r1, r2, ea, wrap_eq _ (by omega) (by omega)]
    have qP : (putF a u b).2 = 0 → 0 ≤ u → u < v.length → valueF (putF a u b).1 v = (IntKind.i64.wrap ((valueF a v).1 + IntKind.i64.wrap (kF a.2 u * IntKind.i64.wrap ((valueF b v).1 - v.getD u.toNat 0))), 0) := fun h h0 h1 => by
      obtain ⟨r1, r2⟩ := put_val h oa ob
      have := valT_bound r1 hW
      have hw : -2147483648 ≤ v.getD u.toNat 0 ∧ v.getD u.toNat 0 ≤ 2147483647 := by
        have := List.any_eq_false.1 hW (v.getD u.toNat 0) (getD_mem v _ 0 (by omega))
        simpa [wide_pred] using this
      rw [vo _ r1, r2, ea, eb, wrap_eq (valT v b - _) (by omega) (by omega), wrap_eq (kF a.2 u * _) (by omega) (by omega), wrap_eq _ (by omega) (by omega)]
    refine ⟨Unit, fun _ => [(2, I k), (3, I u), (4, ints v), (5, .box 5 0), (6, .box 6 0), (11, I (valueF a v).1), (13, I (valueF b v).1)], fun _ => [(5, termC a), (6, termC b)], fun _ => True, ?_, fun _ _ => ?_⟩
    · refine ⟨(a, b), ⟨.refl _, .refl _, trivial⟩, rfl, trivial, ?_⟩
      refine ⟨?_, ?_⟩
      · skip
        intro h -- ((addF (a, b).fst (a, b).snd).snd == 0) = true
        dsimp only at h
        refine ⟨((addF a b).1, v), ⟨.refl _, .refl _, trivial⟩, rfl, hlb, ?_⟩
        refine ⟨?_, ?_⟩
        · skip
          intro h -- ((valueF ((addF a b).fst, v).fst ((addF a b).fst, v).snd).snd != 0) = true
          dsimp only at h
          (rw [qA (eq_of_beq ‹((addF a b).2 == 0) = true›)] at h; simp at h; done)
        · skip
          intro h -- ((valueF ((addF a b).fst, v).fst ((addF a b).fst, v).snd).snd != 0) = false
          dsimp only at h
          refine ⟨?_, ?_⟩
          · skip
            intro h -- ((valueF ((addF a b).fst, v).fst ((addF a b).fst, v).snd).fst != IntKind.i64.wrap ((valueF a v).fst + (valueF b v).fst)) = true
            dsimp only at h
            (rw [qA (eq_of_beq ‹((addF a b).2 == 0) = true›)] at h; simp at h; done)
          · skip
            intro h -- ((valueF ((addF a b).fst, v).fst ((addF a b).fst, v).snd).fst != IntKind.i64.wrap ((valueF a v).fst + (valueF b v).fst)) = false
            dsimp only at h
            exact ⟨(), trivial, ⟨rfl, rfl⟩, .refl _, .refl _, .refl _, .refl _, .refl _, .refl _, .refl _, ⟨.refl _, .refl _, trivial⟩, ⟨.refl _, .refl _, trivial⟩, trivial⟩
      · skip
        intro h -- ((addF (a, b).fst (a, b).snd).snd == 0) = false
        dsimp only at h
        exact ⟨(), trivial, ⟨rfl, rfl⟩, .refl _, .refl _, .refl _, .refl _, .refl _, .refl _, .refl _, ⟨.refl _, .refl _, trivial⟩, ⟨.refl _, .refl _, trivial⟩, trivial⟩
    refine ⟨by decide, ?_⟩
    refine ⟨Unit, fun _ => [(3, I u), (4, ints v), (5, .box 5 0), (6, .box 6 0), (11, I (valueF a v).1), (13, I (valueF b v).1)], fun _ => [(5, termC a), (6, termC b)], fun _ => True, ?_, fun _ _ => ?_⟩
    · refine ⟨(a, k.tmod 1024), ⟨.refl _, .refl _, trivial⟩, rfl, trivial, ?_⟩
      refine ⟨?_, ?_⟩
      · skip
        intro h -- ((scaleF (a, k.tmod 1024).fst (a, k.tmod 1024).snd).snd == 0) = true
        dsimp only at h
        refine ⟨((scaleF a (k.tmod 1024)).1, v), ⟨.agg2 (.refl _) (.own ..), .refl _, trivial⟩, rfl, hlb, ?_⟩
        refine ⟨?_, ?_⟩
        · skip
          intro h -- ((valueF ((scaleF a (k.tmod 1024)).fst, v).fst ((scaleF a (k.tmod 1024)).fst, v).snd).snd != 0) = true
          dsimp only at h
          (rw [qS _ (eq_of_beq ‹((scaleF a (k.tmod 1024)).2 == 0) = true›)] at h; simp at h; done)
        · skip
          intro h -- ((valueF ((scaleF a (k.tmod 1024)).fst, v).fst ((scaleF a (k.tmod 1024)).fst, v).snd).snd != 0) = false
          dsimp only at h
          refine ⟨?_, ?_⟩
          · skip
            intro h -- ((valueF ((scaleF a (k.tmod 1024)).fst, v).fst ((scaleF a (k.tmod 1024)).fst, v).snd).fst != IntKind.i64.wrap (k.tmod 1024 * (valueF a v).fst)) = true
            dsimp only at h
            (rw [qS _ (eq_of_beq ‹((scaleF a (k.tmod 1024)).2 == 0) = true›)] at h; simp at h; done)
          · skip
            intro h -- ((valueF ((scaleF a (k.tmod 1024)).fst, v).fst ((scaleF a (k.tmod 1024)).fst, v).snd).fst != IntKind.i64.wrap (k.tmod 1024 * (valueF a v).fst)) = false
            dsimp only at h
            exact ⟨(), trivial, ⟨rfl, rfl⟩, .refl _, .refl _, .refl _, .refl _, .refl _, .refl _, ⟨.refl _, .refl _, trivial⟩, ⟨.refl _, .refl _, trivial⟩, trivial⟩
      · skip
        intro h -- ((scaleF (a, k.tmod 1024).fst (a, k.tmod 1024).snd).snd == 0) = false
        dsimp only at h
        exact ⟨(), trivial, ⟨rfl, rfl⟩, .refl _, .refl _, .refl _, .refl _, .refl _, .refl _, ⟨.refl _, .refl _, trivial⟩, ⟨.refl _, .refl _, trivial⟩, trivial⟩
    refine ⟨fun h4 => ?_, fun h4 => ⟨fun h5 => ?_, fun h5 => ?_⟩⟩
    · refine ⟨(), trivial, rfl, trivial, ?_⟩
      exact ⟨.refl _, rfl⟩
    · refine ⟨(), trivial, rfl, trivial, ?_⟩
      exact ⟨.refl _, rfl⟩
    have u0 : 0 ≤ u := by have := of_decide_eq_false h4; omega
    have u1 : u < v.length := by have := of_decide_eq_false h5; omega
    have hla : a.2.length ≤ 40 := ta.1.2.2.1
    refine ⟨(a, u, b), ⟨.refl _, .refl _, .refl _, trivial⟩, rfl, trivial, ?_⟩
    refine ⟨?_, ?_⟩
    · skip
      intro h -- ((putF (a, u, b).fst (a, u, b).snd.fst (a, u, b).snd.snd).snd == 0) = true
      dsimp only at h
      refine ⟨((putF a u b).1, v), ⟨.refl _, .refl _, trivial⟩, rfl, hlb, ?_⟩
      refine ⟨?_, ?_⟩
      · kernel_rfl
      · skip
        refine ⟨?_, ?_⟩
        · skip
          intro h -- ((valueF ((putF a u b).fst, v).fst ((putF a u b).fst, v).snd).snd != 0) = true
          dsimp only at h
          (rw [qP (eq_of_beq ‹((putF a u b).2 == 0) = true›) u0 u1] at h; simp at h; done)
        · skip
          intro h -- ((valueF ((putF a u b).fst, v).fst ((putF a u b).fst, v).snd).snd != 0) = false
          dsimp only at h
          refine ⟨(a, u), ⟨.refl _, .refl _, trivial⟩, rfl, (show a.2.length ≤ 1000000000 by omega), ?_⟩
          refine ⟨?_, ?_⟩
          · exact ⟨u0, u1⟩
          · skip
            refine ⟨?_, ?_⟩
            · skip
              intro h -- ((valueF ((putF a u b).fst, v).fst ((putF a u b).fst, v).snd).fst != IntKind.i64.wrap ((valueF a v).fst + IntKind.i64.wrap (kF (a, u).fst.snd (a, u).snd * IntKi
              dsimp only at h
              (rw [qP (eq_of_beq ‹((putF a u b).2 == 0) = true›) u0 u1] at h; simp at h; done)
            · skip
              intro h -- ((valueF ((putF a u b).fst, v).fst ((putF a u b).fst, v).snd).fst != IntKind.i64.wrap ((valueF a v).fst + IntKind.i64.wrap (kF (a, u).fst.snd (a, u).snd * IntKi
              dsimp only at h
              refine ⟨(), trivial, rfl, trivial, ?_⟩
              exact ⟨.refl _, rfl⟩
    · skip
      intro h -- ((putF (a, u, b).fst (a, u, b).snd.fst (a, u, b).snd.snd).snd == 0) = false
      dsimp only at h
      refine ⟨(), trivial, rfl, trivial, ?_⟩
      exact ⟨.refl _, rfl⟩
end Go.Proofs.Ytddcbnillkefhaa.Ax
