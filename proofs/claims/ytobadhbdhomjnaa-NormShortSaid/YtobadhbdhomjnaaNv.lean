/- Layer norm by the logic: NormShort. -/
import Derived.Test.YtobadhbdhomjnaaNw
set_option linter.unusedVariables false
set_option linter.unusedSimpArgs false
namespace Go.Proofs.Ytobadhbdhomjnaa.Ax
open Go Go.RowKit
def shD (d : Int) : Int := IntKind.i64.wrap (2 + IntKind.i64.wrap ((IntKind.u64.wrap d).tmod 1000))
theorem shD_in (d : Int) : 2 ≤ shD d ∧ shD d < 1002 := by
  have h0 : 0 ≤ IntKind.u64.wrap d := by
    simp only [IntKind.wrap, IntKind.bits, IntKind.signed]; simp; omega
  have h1 := Int.tmod_nonneg 1000 h0
  have h2 := Int.tmod_lt_of_pos (IntKind.u64.wrap d) (b := 1000) (by omega)
  unfold shD
  rw [wrap_eq ((IntKind.u64.wrap d).tmod 1000) (by omega) (by omega), wrap_eq _ (by omega) (by omega)]
  omega
theorem shortFacts (t : Int × List (Int × Int)) (e : Bool) (d : Int) (hd : 2 ≤ d) (hr : right t) (h5 : (oneF (t, e)).2.1 = 0) :
    ∃ s, (oneF (t, e)).1 = s ∧ s.1.2.all (fun m => m.2.tmod d == 0) = false ∧ s.1.2.length = t.2.length ∧ s.2 = e ∧ (e = true → (s.1.2.getD 0 (0, 0)).2 > 0) ∧ 0 < s.1.2.length ∧ s.1.2.length ≤ 40 := by
  have h3 : (oneF (t, e)).2.2 = 0 := one_right (c := (t, e)) hr
  have p1 := short_prime (c := (t, e)) h3 h5 d hd
  have p4 := fun he => short_first (c := (t, e)) h3 h5 he
  obtain ⟨-, hne, -, h6⟩ := one_short (c := (t, e)) h3 h5
  have p2 : (oneF (t, e)).1.1.2.length = t.2.length := by rw [h6]; simp
  have p3 : (oneF (t, e)).1.2 = e := by rw [h6]
  exact ⟨_, rfl, p1, p2, p3, p4, by rw [p2]; exact List.length_pos_iff.2 hne, oneF_len (t, e)⟩
def NormShort : Ctr := { A := ((Int × List (Int × Int)) × Bool) × Int, enc := fun x => [consS x.1, I x.2], dom := fun _ => True, res := fun _ _ => .tt }
set_option maxRecDepth 100000 in
set_option maxHeartbeats 4000000 in
theorem NormShort_ok : CtrSound Try.prog 4 NormShort :=
  ctr_of_ax (env_ok tys_ok (eqs := []) trivial (cs := [(9, Heavy13), (10, ref_Right), (13, norm_One), (12, wakes14)]) ⟨Heavy13_ok, ref_Right_ok, norm_One_ok, wakes14_ok, trivial⟩) mixed _ Try.func4 (by kernel_rfl) rfl (fun _ _ => Nat.le_of_ble_eq_true rfl) fun (((t, e), d) : ((Int × List (Int × Int)) × Bool) × Int) id hd => by
    refine ⟨t, ⟨.agg2 (.refl _) (.refl _), trivial⟩, rfl, trivial, fun h1 => ?_, fun h1 => ?_⟩
    · exact ⟨.refl _, rfl⟩
    refine ⟨t, ⟨.agg2 (.refl _) (.refl _), trivial⟩, rfl, trivial, fun h2 => ?_, fun h2 => ?_⟩
    · exact ⟨.refl _, rfl⟩
    have hr : right t := of_decide_eq_true (nnot h2)
    have hdd := shD_in d
    have h3 : (oneF (t, e)).2.2 = 0 := one_right (c := (t, e)) hr
    refine ⟨by decide, ?_⟩
    refine ⟨(t, e), ⟨.agg3 (.refl _) (.refl _) (.refl _), trivial⟩, rfl, trivial, ?_⟩
    refine ⟨fun h => absurd (show ((oneF (t, e)).2.2 != 0) = true from h) (by rw [h3]; decide), fun h4 => ?_⟩
    refine ⟨fun h5 => ?_, fun h5 => ?_⟩
    · have hw := one_what (c := (t, e)) (fun z => by have h5 : ((oneF (t, e)).2.1 != 0) = true := h5; rw [z] at h5; simp at h5)
      refine ⟨?_, ?_⟩
      · skip
        intro h -- (↑(oneF (t, e)).fst.fst.snd.length == 0) = true
        refine ⟨(), trivial, rfl, trivial, ?_⟩
        exact ⟨.refl _, rfl⟩
      · skip
        intro h -- (↑(oneF (t, e)).fst.fst.snd.length == 0) = false
        (rw [hw] at h; simp at h; done)
    have h5 : (oneF (t, e)).2.1 = 0 := by have h5 : ((oneF (t, e)).2.1 != 0) = false := h5; simpa using h5
    refine Exists.elim (shortFacts t e (shD d) hdd.1 hr h5) fun s hs0 => ?_
    have hs := hs0.1
    have p1 := hs0.2.1
    have p2 := hs0.2.2.1
    have p3 := hs0.2.2.2.1
    have p4 := hs0.2.2.2.2.1
    have p5 := hs0.2.2.2.2.2.1
    have hsl := hs0.2.2.2.2.2.2
    clear hs0
    refine ⟨Nat × Bool, fun x => [(1, I (shD d)), (2, .box 2 0), (5, .box 5 0), (8, B x.2), (9, I x.1)], fun _ => [(2, consC (t, e)), (5, consC s)],
      fun x => x.1 ≤ s.1.2.length ∧ (x.2 && (s.1.2.drop x.1).all (fun m => m.2.tmod (shD d) == 0)) = false, fun x => s.1.2.length - x.1, ⟨(0, true), ⟨Nat.zero_le _, p1⟩, ⟨⟨rfl, rfl⟩, ?_⟩⟩, fun ((i, b) : Nat × Bool) hi => ?_⟩
    · subst hs
      refine ⟨?_, ?_⟩
      · exact .refl _
      · skip
        refine ⟨?_, ?_⟩
        · exact .refl _
        · skip
          refine ⟨?_, ?_⟩
          · exact .refl _
          · skip
            refine ⟨?_, ?_⟩
            · exact .refl _
            · skip
              refine ⟨?_, ?_⟩
              · exact .tt
              · skip
                refine ⟨?_, ?_⟩
                · exact ⟨.refl _, .own .., .refl _, trivial⟩
                · skip
                  refine ⟨?_, ?_⟩
                  · exact ⟨.refl _, .refl _, .refl _, trivial⟩
                  · skip
                    exact trivial
    have hil : i ≤ s.1.2.length := hi.1
    have hk : (b && (s.1.2.drop i).all (fun m => m.2.tmod (shD d) == 0)) = false := hi.2
    have hwj : IntKind.i64.wrap ((i : Int) + 1) = ((i + 1 : Nat) : Int) := by rw [wrap_eq _ (by omega) (by omega)]; omega
    have hdz : shD d ≠ 0 := by omega
    refine ⟨fun h => ?_, fun h => ?_⟩
    · have hlt : i < s.1.2.length := of_decide_lt h
      rw [drop_at (0, 0) s.1.2 i hlt, List.all_cons] at hk
      cases b
      · refine ⟨?_, ?_⟩
        · skip
          intro h -- (i, false).snd = true
          dsimp only at h
          (exact Bool.noConfusion h)
        · skip
          intro h -- (i, false).snd = false
          dsimp only at h
          exact ⟨(i + 1, false), ⟨hlt, rfl⟩, by show s.1.2.length - (i + 1) < s.1.2.length - i; omega, ⟨rfl, rfl⟩, .refl _, .refl _, .int hwj, .refl _, .ff, ⟨.refl _, .refl _, .refl _, trivial⟩, ⟨.refl _, .refl _, .refl _, trivial⟩, trivial⟩
      · refine ⟨?_, ?_⟩
        · skip
          intro h -- (i, true).snd = true
          dsimp only at h
          refine ⟨?_, ?_⟩
          · exact ⟨Int.natCast_nonneg _, by omega⟩
          · skip
            refine ⟨?_, ?_⟩
            · skip
              intro h -- shD d = 0
              exact absurd h hdz
            · skip
              exact ⟨(i + 1, (s.1.2.getD i (0, 0)).2.tmod (shD d) == 0), ⟨hlt, by simpa using hk⟩, by show s.1.2.length - (i + 1) < s.1.2.length - i; omega, ⟨rfl, rfl⟩, .refl _, .refl _, .int hwj, .refl _, .refl _, ⟨.refl _, .refl _, .refl _, trivial⟩, ⟨.refl _, .refl _, .refl _, trivial⟩, trivial⟩
        · skip
          intro h -- (i, true).snd = false
          dsimp only at h
          (exact Bool.noConfusion h)
    · have hge : i = s.1.2.length := of_decide_ge h hil
      subst hge
      rw [List.drop_length, List.all_nil, Bool.and_true] at hk
      subst hk
      refine ⟨?_, ?_⟩
      · skip
        intro h -- (!(s.fst.snd.length, false).snd) = true
        dsimp only at h
        refine ⟨?_, ?_⟩
        · skip
          intro h -- (↑s.fst.snd.length == ↑(t, e).fst.snd.length) = true
          dsimp only at h
          refine ⟨?_, ?_⟩
          · skip
            intro h -- (s.snd == (t, e).snd) = true
            dsimp only at h
            refine ⟨?_, ?_⟩
            · skip
              intro h -- (!(t, e).snd) = true
              dsimp only at h
              refine ⟨(), trivial, rfl, trivial, ?_⟩
              exact ⟨.refl _, rfl⟩
            · skip
              intro h -- (!(t, e).snd) = false
              dsimp only at h
              refine ⟨?_, ?_⟩
              · exact ⟨Int.le_refl _, by omega⟩
              · skip
                refine ⟨?_, ?_⟩
                · skip
                  intro h -- decide ((s.fst.snd.getD (Int.toNat 0) (0, 0)).snd > 0) = true
                  refine ⟨(), trivial, rfl, trivial, ?_⟩
                  exact ⟨.refl _, rfl⟩
                · skip
                  intro h -- decide ((s.fst.snd.getD (Int.toNat 0) (0, 0)).snd > 0) = false
                  (exact absurd (p4 (by simpa using ‹(!e) = false›)) (of_decide_eq_false h))
          · skip
            intro h -- (s.snd == (t, e).snd) = false
            dsimp only at h
            (simp [p3] at h; done)
        · skip
          intro h -- (↑s.fst.snd.length == ↑(t, e).fst.snd.length) = false
          dsimp only at h
          (simp [p2] at h; done)
      · skip
        intro h -- (!(s.fst.snd.length, false).snd) = false
        dsimp only at h
        (exact Bool.noConfusion h)
end Go.Proofs.Ytobadhbdhomjnaa.Ax
