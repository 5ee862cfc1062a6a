/- Layer norm by the logic: the reference's short form. -/
import Derived.Test.YtobadhbdhomjnaaNr
set_option linter.unusedVariables false
set_option linter.unusedSimpArgs false
namespace Go.Proofs.Ytobadhbdhomjnaa.Ax
open Go Go.RowKit
def RW (sg : Int) (g : Nat) (m : Int × Int) : Int × Int := (m.1, IntKind.i64.wrap (sg * IntKind.i64.wrap (m.2.tdiv (g : Int))))
def ref_Short : Ctr := { A := CC, enc := fun c => [consS c], dom := fun c => right c.1, res := fun c id => .tup [consO (oneF c).1 id, I (oneF c).2.1] }
set_option maxRecDepth 100000 in
set_option maxHeartbeats 4000000 in
theorem ref_Short_ok : CtrSound Try.prog 23 ref_Short :=
  ctr_of_ax (env_ok tys_ok (eqs := []) trivial (cs := [(37, ref_gcd), (38, ref_up)]) ⟨ref_gcd_ok, ref_up_ok, trivial⟩) mixed _ Try.func23 (by kernel_rfl) rfl (fun _ _ => Nat.le_of_ble_eq_true rfl) fun (((c, l), e) : CC) id hd => by
    have hr : right (c, l) := hd
    obtain ⟨hc, hlen, ho⟩ := (right_iff _).1 hr
    have hc : -1099511627776 ≤ c ∧ c ≤ 1099511627776 := hc
    have hlen : l.length ≤ 40 := hlen
    have ho : ord (-1) l := ho
    refine ⟨fun h2 => ?_, fun h2 => ?_⟩
    · have hnil : l = [] := List.eq_nil_of_length_eq_zero (by have := eq_of_beq h2; dsimp only at this; omega)
      have e0 : oneF ((c, l), e) = (((0, []), false), alwaysF ((c, l), e), 0) := by unfold oneF; rw [if_pos hr, if_pos hnil]
      have y1 : (c == 0) = true → alwaysF ((c, l), e) = 2 := fun h => if_pos (.inl (eq_of_beq h))
      have y2 : e = false → decide (c < 0) = true → alwaysF ((c, l), e) = 2 := fun h h2 => if_pos (.inr ⟨of_decide_eq_true h2, h⟩)
      have y3 : (c == 0) = false → e = true → alwaysF ((c, l), e) = 1 := fun h h2 => if_neg (fun q => q.elim (fun q => by rw [show c = 0 from q] at h; simp at h) (fun q => Bool.noConfusion (q.2.symm.trans h2)))
      have y4 : (c == 0) = false → decide (c < 0) = false → alwaysF ((c, l), e) = 1 := fun h h2 => if_neg (fun q => q.elim (fun q => by rw [show c = 0 from q] at h; simp at h) (fun q => of_decide_eq_false h2 q.1))
      cases e
      · refine ⟨?_, ?_⟩
        · skip
          intro h -- (((c, l), false).fst.fst == 0) = true
          dsimp only at h
          exact ⟨.tup2 (.agg3 (.int (by rw [e0])) (by rw [e0]; exact .nilO ..) (.bool (by rw [e0]))) (.int (by rw [e0, y1 h])), rfl⟩
        · skip
          intro h -- (((c, l), false).fst.fst == 0) = false
          dsimp only at h
          refine ⟨?_, ?_⟩
          · skip
            intro h -- (!((c, l), false).snd) = true
            dsimp only at h
            refine ⟨?_, ?_⟩
            · skip
              intro h -- decide (((c, l), false).fst.fst < 0) = true
              dsimp only at h
              exact ⟨.tup2 (.agg3 (.int (by rw [e0])) (by rw [e0]; exact .nilO ..) (.bool (by rw [e0]))) (.int (by rw [e0, y2 rfl h])), rfl⟩
            · skip
              intro h -- decide (((c, l), false).fst.fst < 0) = false
              dsimp only at h
              exact ⟨.tup2 (.agg3 (.int (by rw [e0])) (by rw [e0]; exact .nilO ..) (.bool (by rw [e0]))) (.int (by rw [e0, y4 ‹(c == 0) = false› h])), rfl⟩
          · skip
            intro h -- (!((c, l), false).snd) = false
            dsimp only at h
            (exact Bool.noConfusion h)
      · refine ⟨?_, ?_⟩
        · skip
          intro h -- (((c, l), true).fst.fst == 0) = true
          dsimp only at h
          exact ⟨.tup2 (.agg3 (.int (by rw [e0])) (by rw [e0]; exact .nilO ..) (.bool (by rw [e0]))) (.int (by rw [e0, y1 h])), rfl⟩
        · skip
          intro h -- (((c, l), true).fst.fst == 0) = false
          dsimp only at h
          refine ⟨?_, ?_⟩
          · skip
            intro h -- (!((c, l), true).snd) = true
            dsimp only at h
            (exact Bool.noConfusion h)
          · skip
            intro h -- (!((c, l), true).snd) = false
            dsimp only at h
            exact ⟨.tup2 (.agg3 (.int (by rw [e0])) (by rw [e0]; exact .nilO ..) (.bool (by rw [e0]))) (.int (by rw [e0, y3 ‹(c == 0) = false› rfl])), rfl⟩
    have hne : l ≠ [] := fun q => by subst q; simp at h2
    have G1 := gL_le l 0 (-1) ho (by omega)
    have hg1 := G1.1
    have hg2 : 0 < gL 0 l := G1.2 (.inr hne)
    clear G1
    refine Exists.elim (show ∃ G, gL 0 l = G from ⟨_, rfl⟩) fun G hG => ?_
    rw [hG] at hg1 hg2
    refine ⟨Nat × Nat, fun s => [(1, .box 1 0), (2, .box 2 0), (4, I s.2), (5, I s.1)], fun s => [(1, [I c, monos l, B e]), (2, [I 0, .val (.slice none 0 0), B false])],
      fun s => s.1 ≤ l.length ∧ gL s.2 (l.drop s.1) = G ∧ s.2 ≤ 1048576, fun s => l.length - s.1, ⟨(0, 0), ⟨Nat.zero_le _, hG, Nat.zero_le _⟩, ⟨⟨rfl, rfl⟩, .refl _, .refl _, .refl _, .refl _, ⟨.refl _, .refl _, .refl _, trivial⟩, ⟨.refl _, .refl _, .refl _, trivial⟩, trivial⟩⟩, fun ((i, g) : Nat × Nat) hi => ?_⟩
    have hil : i ≤ l.length := hi.1
    have hk : gL g (l.drop i) = G := hi.2.1
    have hgb : g ≤ 1048576 := hi.2.2
    have hwj : IntKind.i64.wrap ((i : Int) + 1) = ((i + 1 : Nat) : Int) := by rw [wrap_eq _ (by omega) (by omega)]; omega
    refine ⟨fun h => ?_, fun h => ?_⟩
    · have hlt : i < l.length := of_decide_lt h
      have gd := (good_of_ord l (-1) (by omega) ho i hlt).1
      rw [drop_at (0, 0) l i hlt, gL] at hk
      have hb : Int.gcd g (l.getD i (0, 0)).2 ≤ (l.getD i (0, 0)).2.natAbs := Nat.le_of_dvd (by have := gd.2.2.2.1; omega) (Nat.gcd_dvd_right _ _)
      refine ⟨⟨by omega, by dsimp only; omega⟩, ?_⟩
      refine ⟨((g : Int), (l.getD i (0, 0)).2), ⟨.refl _, .refl _, trivial⟩, rfl, (show (-1152921504606846976 ≤ (g : Int) ∧ (g : Int) ≤ 1152921504606846976) ∧ -1152921504606846976 ≤ (l.getD i (0, 0)).2 ∧ (l.getD i (0, 0)).2 ≤ 1152921504606846976 from by have := gd.2.2.2.2; omega), ?_⟩
      exact ⟨(i + 1, Int.gcd g (l.getD i (0, 0)).2), ⟨hlt, hk, by have := gd.2.2.2.2; show Int.gcd g (l.getD i (0, 0)).2 ≤ 1048576; omega⟩, by show l.length - (i + 1) < l.length - i; omega, ⟨rfl, rfl⟩, .refl _, .int hwj, .refl _, .refl _, ⟨.refl _, .refl _, .refl _, trivial⟩, ⟨.refl _, .refl _, .refl _, trivial⟩, trivial⟩
    have hge : i = l.length := of_decide_ge h hil
    subst hge
    rw [List.drop_length] at hk
    obtain rfl : g = G := hk
    have hgz : (g : Int) ≠ 0 := by omega
    have h0 : (0 : Int) ≤ 0 ∧ (0 : Int) < (l.length : Int) := ⟨Int.le_refl _, by have := List.length_pos_iff.2 hne; omega⟩
    have ee : e = true → (c.tmod (g : Int) != 0) = true → oneF ((c, l), e) = (((0, []), false), 1, 0) := fun h h' => by
      unfold oneF; rw [if_pos hr, if_neg hne, hG, if_pos ⟨h, by simpa using h'⟩]
    have hu : (upF c g).natAbs ≤ 1099511627777 := by
      have h5 : (c.tdiv (g : Int)).natAbs ≤ c.natAbs := by rw [Int.natAbs_tdiv]; exact Nat.div_le_self _ _
      unfold upF; split <;> omega
    have fin : ∀ (sg : Int) (o : List (Int × Int)) (i : Nat), (sg = 1 ∨ sg = -1) → sgF ((c, l), e) = sg → (e = true → c.tmod (g : Int) = 0) → i = l.length → o ++ (l.drop i).map (RW sg g) = l.map (RW sg g) →
        Sub (.tup [.agg [I (IntKind.i64.wrap (sg * upF c g)), monosO o id, B e], I 0]) (ref_Short.res ((c, l), e) id) := by
      intro sg o i hs1 hs2 hz hil ho2
      have w1 : IntKind.i64.wrap (sg * upF c g) = sg * upF c g := by rcases hs1 with rfl | rfl <;> exact wrap_eq _ (by omega) (by omega)
      have w2 : o = l.map fun m => (m.1, (sg * m.2).tdiv (g : Int)) := by
        rw [hil, List.drop_length] at ho2
        simp only [List.map_nil, List.append_nil] at ho2
        rw [ho2]
        refine List.map_congr_left fun m hm => ?_
        obtain ⟨j, hj, rfl⟩ := List.getElem_of_mem hm
        have gd := (good_of_ord l (-1) (by omega) ho j hj).1
        have e5 : l.getD j (0, 0) = l[j] := by simp [List.getD, hj]
        have gb := gd.2.2.2.2
        rw [e5] at gb
        have h7 : (l[j].2.tdiv (g : Int)).natAbs ≤ l[j].2.natAbs := by rw [Int.natAbs_tdiv]; exact Nat.div_le_self _ _
        unfold RW
        rw [wrap_eq (l[j].2.tdiv (g : Int)) (by omega) (by omega)]
        rcases hs1 with rfl | rfl
        · rw [Int.one_mul, Int.one_mul, wrap_eq _ (by omega) (by omega)]
        · rw [Int.neg_one_mul, Int.neg_one_mul, Int.neg_tdiv, wrap_eq _ (by omega) (by omega)]
      have e0 : oneF ((c, l), e) = (((sg * upF c g, l.map fun m => (m.1, (sg * m.2).tdiv (g : Int))), e), 0, 0) := by
        unfold oneF
        rw [if_pos hr, if_neg hne, hG, hs2, if_neg (fun q => q.2 (hz q.1))]
      exact .tup2 (.agg3 (.int (by rw [e0, w1])) (Sub.ownEq (by rw [e0, w2])) (.bool (by rw [e0]))) (.int (by rw [e0]))
    refine ⟨?_, ?_⟩
    · skip
      intro h -- e = true
      refine ⟨?_, ?_⟩
      · skip
        intro h -- ↑(l.length, g).snd = 0
        dsimp only at h
        exact absurd h hgz
      · skip
        refine ⟨?_, ?_⟩
        · skip
          intro h -- (c.tmod ↑(l.length, g).snd != 0) = true
          dsimp only at h
          exact ⟨.tup2 (.agg3 (.int (by rw [ee ‹e = true› h])) (by rw [ee ‹e = true› h]; exact .nilO ..) (.bool (by rw [ee ‹e = true› h]))) (.int (by rw [ee ‹e = true› h])), rfl⟩
        · skip
          intro h -- (c.tmod ↑(l.length, g).snd != 0) = false
          dsimp only at h
          refine ⟨?_, ?_⟩
          · skip
            intro h -- e = true
            refine ⟨?_, ?_⟩
            · exact h0
            · skip
              refine ⟨?_, ?_⟩
              · skip
                intro h -- decide ((l.getD (Int.toNat 0) (0, 0)).snd < 0) = true
                refine ⟨?_, ?_⟩
                · kernel_rfl
                · skip
                  refine ⟨(c, (g : Int)), ⟨.refl _, .refl _, trivial⟩, rfl, (show (-1152921504606846976 ≤ c ∧ c ≤ 1152921504606846976) ∧ 0 < (g : Int) by omega), ?_⟩
                  (have _ := ‹decide ((l.getD 0 (0, 0)).2 < 0) = true›; refine ⟨Nat × List (Int × Int), fun s => [(1, .box 1 0), (2, .box 2 0), (4, I (g : Int)), (6, I (-1)), (7, .box 7 0), (8, I s.1)], fun s => [(1, [I c, monos l, B e]), (2, [I 0, .val (.slice none 0 0), B false]), (7, [I (IntKind.i64.wrap ((-1) * upF c g)), monosO s.2 112, B e])], fun s => s.1 ≤ l.length ∧ s.2 ++ (l.drop s.1).map (RW (-1) g) = l.map (RW (-1) g) ∧ s.2.length ≤ s.1, fun s => l.length - s.1, ⟨(0, []), ⟨Nat.zero_le _, rfl, Nat.le_refl _⟩, ⟨⟨rfl, rfl⟩, .refl _, .refl _, .refl _, .refl _, .refl _, .refl _, ⟨.refl _, .refl _, .refl _, trivial⟩, ⟨.refl _, .nilO .., .refl _, trivial⟩, ⟨.refl _, .refl _, .refl _, trivial⟩, trivial⟩⟩, fun ((i, o) : Nat × List (Int × Int)) hi => ?_⟩)
                  refine ⟨?_, ?_⟩
                  · skip
                    intro h -- decide (↑(i, o).fst < ↑l.length) = true
                    dsimp only at h
                    refine ⟨?_, ?_⟩
                    · kernel_rfl
                    · skip
                      refine ⟨?_, ?_⟩
                      · exact ⟨Int.natCast_nonneg _, of_decide_eq_true h⟩
                      · skip
                        refine ⟨?_, ?_⟩
                        · exact ⟨Int.natCast_nonneg _, of_decide_eq_true h⟩
                        · skip
                          refine ⟨?_, ?_⟩
                          · skip
                            intro h -- ↑g = 0
                            exact absurd h hgz
                          · skip
                            (have _ := ‹decide ((l.getD 0 (0, 0)).2 < 0) = true›; refine ⟨Int × Int, monoC, (0, 0), [RW (-1) g (l.getD i (0, 0))], ⟨rfl, fun _ => rfl⟩, ⟨.refl _, .refl _, trivial⟩, rfl, ?_⟩)
                            (have _ := ‹decide ((l.getD 0 (0, 0)).2 < 0) = true›; refine ⟨Int × Int, monoC, (0, 0), o, [RW (-1) g (l.getD i (0, 0))], 112, ⟨.refl _, .own ..⟩, fun _ => rfl, (by have h5 := hi.2.2; have h6 := hi.1; dsimp only at h5 h6; simp only [List.length_cons, List.length_nil]; omega), ?_⟩)
                            (have _ := ‹decide ((l.getD 0 (0, 0)).2 < 0) = true›; exact ⟨(i + 1, o ++ [RW (-1) g (l.getD i (0, 0))]), ⟨(of_decide_lt h), map_step (0, 0) (of_decide_lt h) hi.2.1, (by have h5 := hi.2.2; dsimp only at h5; simp only [List.length_append, List.length_cons, List.length_nil]; omega)⟩, (by have h5 := of_decide_lt h; show l.length - (i + 1) < l.length - i; omega), ⟨rfl, rfl⟩, .refl _, .refl _, .refl _, .refl _, .int (by have h6 := hi.1; dsimp only at h6; rw [wrap_eq _ (by omega) (by omega)]; rfl), .refl _, ⟨.refl _, .refl _, .refl _, trivial⟩, ⟨.refl _, .refl _, .refl _, trivial⟩, ⟨.refl _, .refl _, .refl _, trivial⟩, trivial⟩)
                  · skip
                    intro h -- decide (↑(i, o).fst < ↑l.length) = false
                    dsimp only at h
                    (have _ := ‹decide ((l.getD 0 (0, 0)).2 < 0) = true›; exact ⟨fin (-1) o i (.inr rfl) (if_pos ⟨‹e = true›, of_decide_eq_true ‹decide ((l.getD 0 (0, 0)).2 < 0) = true›⟩) (fun _ => by simpa using ‹(c.tmod (g : Int) != 0) = false›) (of_decide_ge h hi.1) hi.2.1, rfl⟩)
              · skip
                intro h -- decide ((l.getD (Int.toNat 0) (0, 0)).snd < 0) = false
                refine ⟨?_, ?_⟩
                · kernel_rfl
                · skip
                  refine ⟨(c, (g : Int)), ⟨.refl _, .refl _, trivial⟩, rfl, (show (-1152921504606846976 ≤ c ∧ c ≤ 1152921504606846976) ∧ 0 < (g : Int) by omega), ?_⟩
                  refine ⟨Nat × List (Int × Int), fun s => [(1, .box 1 0), (2, .box 2 0), (4, I (g : Int)), (6, I (1)), (7, .box 7 0), (8, I s.1)], fun s => [(1, [I c, monos l, B e]), (2, [I 0, .val (.slice none 0 0), B false]), (7, [I (IntKind.i64.wrap ((1) * upF c g)), monosO s.2 112, B e])], fun s => s.1 ≤ l.length ∧ s.2 ++ (l.drop s.1).map (RW (1) g) = l.map (RW (1) g) ∧ s.2.length ≤ s.1, fun s => l.length - s.1, ⟨(0, []), ⟨Nat.zero_le _, rfl, Nat.le_refl _⟩, ⟨⟨rfl, rfl⟩, .refl _, .refl _, .refl _, .refl _, .refl _, .refl _, ⟨.refl _, .refl _, .refl _, trivial⟩, ⟨.refl _, .nilO .., .refl _, trivial⟩, ⟨.refl _, .refl _, .refl _, trivial⟩, trivial⟩⟩, fun ((i, o) : Nat × List (Int × Int)) hi => ?_⟩
                  refine ⟨?_, ?_⟩
                  · skip
                    intro h -- decide (↑(i, o).fst < ↑l.length) = true
                    dsimp only at h
                    refine ⟨?_, ?_⟩
                    · kernel_rfl
                    · skip
                      refine ⟨?_, ?_⟩
                      · exact ⟨Int.natCast_nonneg _, of_decide_eq_true h⟩
                      · skip
                        refine ⟨?_, ?_⟩
                        · exact ⟨Int.natCast_nonneg _, of_decide_eq_true h⟩
                        · skip
                          refine ⟨?_, ?_⟩
                          · skip
                            intro h -- ↑g = 0
                            exact absurd h hgz
                          · skip
                            refine ⟨Int × Int, monoC, (0, 0), [RW (1) g (l.getD i (0, 0))], ⟨rfl, fun _ => rfl⟩, ⟨.refl _, .refl _, trivial⟩, rfl, ?_⟩
                            refine ⟨Int × Int, monoC, (0, 0), o, [RW (1) g (l.getD i (0, 0))], 112, ⟨.refl _, .own ..⟩, fun _ => rfl, (by have h5 := hi.2.2; have h6 := hi.1; dsimp only at h5 h6; simp only [List.length_cons, List.length_nil]; omega), ?_⟩
                            exact ⟨(i + 1, o ++ [RW (1) g (l.getD i (0, 0))]), ⟨(of_decide_lt h), map_step (0, 0) (of_decide_lt h) hi.2.1, (by have h5 := hi.2.2; dsimp only at h5; simp only [List.length_append, List.length_cons, List.length_nil]; omega)⟩, (by have h5 := of_decide_lt h; show l.length - (i + 1) < l.length - i; omega), ⟨rfl, rfl⟩, .refl _, .refl _, .refl _, .refl _, .int (by have h6 := hi.1; dsimp only at h6; rw [wrap_eq _ (by omega) (by omega)]; rfl), .refl _, ⟨.refl _, .refl _, .refl _, trivial⟩, ⟨.refl _, .refl _, .refl _, trivial⟩, ⟨.refl _, .refl _, .refl _, trivial⟩, trivial⟩
                  · skip
                    intro h -- decide (↑(i, o).fst < ↑l.length) = false
                    dsimp only at h
                    exact ⟨fin 1 o i (.inl rfl) (if_neg fun q => of_decide_eq_false ‹decide ((l.getD 0 (0, 0)).2 < 0) = false› q.2) (fun _ => by simpa using ‹(c.tmod (g : Int) != 0) = false›) (of_decide_ge h hi.1) hi.2.1, rfl⟩
          · skip
            intro h -- e = false
            exact Bool.noConfusion (h.symm.trans ‹e = true›)
    · skip
      intro h -- e = false
      refine ⟨?_, ?_⟩
      · skip
        intro h -- e = true
        exact Bool.noConfusion (h.symm.trans ‹e = false›)
      · skip
        intro h -- e = false
        refine ⟨?_, ?_⟩
        · kernel_rfl
        · skip
          refine ⟨(c, (g : Int)), ⟨.refl _, .refl _, trivial⟩, rfl, (show (-1152921504606846976 ≤ c ∧ c ≤ 1152921504606846976) ∧ 0 < (g : Int) by omega), ?_⟩
          refine ⟨Nat × List (Int × Int), fun s => [(1, .box 1 0), (2, .box 2 0), (4, I (g : Int)), (6, I (1)), (7, .box 7 0), (8, I s.1)], fun s => [(1, [I c, monos l, B e]), (2, [I 0, .val (.slice none 0 0), B false]), (7, [I (IntKind.i64.wrap ((1) * upF c g)), monosO s.2 112, B e])], fun s => s.1 ≤ l.length ∧ s.2 ++ (l.drop s.1).map (RW (1) g) = l.map (RW (1) g) ∧ s.2.length ≤ s.1, fun s => l.length - s.1, ⟨(0, []), ⟨Nat.zero_le _, rfl, Nat.le_refl _⟩, ⟨⟨rfl, rfl⟩, .refl _, .refl _, .refl _, .refl _, .refl _, .refl _, ⟨.refl _, .refl _, .refl _, trivial⟩, ⟨.refl _, .nilO .., .refl _, trivial⟩, ⟨.refl _, .refl _, .refl _, trivial⟩, trivial⟩⟩, fun ((i, o) : Nat × List (Int × Int)) hi => ?_⟩
          refine ⟨?_, ?_⟩
          · skip
            intro h -- decide (↑(i, o).fst < ↑l.length) = true
            dsimp only at h
            refine ⟨?_, ?_⟩
            · kernel_rfl
            · skip
              refine ⟨?_, ?_⟩
              · exact ⟨Int.natCast_nonneg _, of_decide_eq_true h⟩
              · skip
                refine ⟨?_, ?_⟩
                · exact ⟨Int.natCast_nonneg _, of_decide_eq_true h⟩
                · skip
                  refine ⟨?_, ?_⟩
                  · skip
                    intro h -- ↑g = 0
                    exact absurd h hgz
                  · skip
                    refine ⟨Int × Int, monoC, (0, 0), [RW (1) g (l.getD i (0, 0))], ⟨rfl, fun _ => rfl⟩, ⟨.refl _, .refl _, trivial⟩, rfl, ?_⟩
                    refine ⟨Int × Int, monoC, (0, 0), o, [RW (1) g (l.getD i (0, 0))], 112, ⟨.refl _, .own ..⟩, fun _ => rfl, (by have h5 := hi.2.2; have h6 := hi.1; dsimp only at h5 h6; simp only [List.length_cons, List.length_nil]; omega), ?_⟩
                    exact ⟨(i + 1, o ++ [RW (1) g (l.getD i (0, 0))]), ⟨(of_decide_lt h), map_step (0, 0) (of_decide_lt h) hi.2.1, (by have h5 := hi.2.2; dsimp only at h5; simp only [List.length_append, List.length_cons, List.length_nil]; omega)⟩, (by have h5 := of_decide_lt h; show l.length - (i + 1) < l.length - i; omega), ⟨rfl, rfl⟩, .refl _, .refl _, .refl _, .refl _, .int (by have h6 := hi.1; dsimp only at h6; rw [wrap_eq _ (by omega) (by omega)]; rfl), .refl _, ⟨.refl _, .refl _, .refl _, trivial⟩, ⟨.refl _, .refl _, .refl _, trivial⟩, ⟨.refl _, .refl _, .refl _, trivial⟩, trivial⟩
          · skip
            intro h -- decide (↑(i, o).fst < ↑l.length) = false
            dsimp only at h
            exact ⟨fin 1 o i (.inl rfl) (if_neg fun q => Bool.noConfusion (q.1.symm.trans ‹e = false›)) (fun q => Bool.noConfusion (q.symm.trans ‹e = false›)) (of_decide_ge h hi.1) hi.2.1, rfl⟩
end Go.Proofs.Ytobadhbdhomjnaa.Ax
