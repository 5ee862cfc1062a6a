/- Layer norm by the logic: the reference's multiples. -/
import Derived.Test.YtobadhbdhomjnaaNt
set_option linter.unusedVariables false
set_option linter.unusedSimpArgs false
namespace Go.Proofs.Ytobadhbdhomjnaa.Ax
open Go Go.RowKit
def rsM (k : Int) (m : Int × Int) : Int × Int := (m.1, IntKind.i64.wrap (m.2 * k))
def rsF (a : Int × List (Int × Int)) (k : Int) : (Int × List (Int × Int)) × Bool :=
  if k = 0 then ((0, []), true) else if roomF a.1 k 1099511627776 = true ∧ a.2.all (fun m => roomF m.2 k 1048576) = true then ((IntKind.i64.wrap (a.1 * k), a.2.map (rsM k)), true) else ((0, []), false)
def ref_Scale : Ctr := { A := (Int × List (Int × Int)) × Int, enc := fun x => [termS x.1, I x.2], dom := fun x => x.1.2.length ≤ 1000 ∧ -4611686018427387904 ≤ x.2 ∧ x.2 ≤ 4611686018427387904, res := fun x id => .tup [termO (rsF x.1 x.2).1 id, B (rsF x.1 x.2).2] }
set_option maxRecDepth 100000 in
set_option maxHeartbeats 4000000 in
theorem ref_Scale_ok : CtrSound Try.prog 11 ref_Scale :=
  ctr_of_ax (env_ok tys_ok (eqs := []) trivial (cs := [(26, ref_room)]) ⟨ref_room_ok, trivial⟩) mixed _ Try.func11 (by kernel_rfl) rfl (fun _ _ => Nat.le_of_ble_eq_true rfl) fun (((c, l), k) : (Int × List (Int × Int)) × Int) id hd => by
    have hd : l.length ≤ 1000 ∧ -4611686018427387904 ≤ k ∧ k ≤ 4611686018427387904 := hd
    have r0 : k = 0 → rsF (c, l) k = ((0, []), true) := fun h => if_pos h
    have r1 : k ≠ 0 → roomF c k 1099511627776 = false → rsF (c, l) k = ((0, []), false) := fun h h2 => by unfold rsF; rw [if_neg h, if_neg (fun q => by rw [h2] at q; cases q.1)]
    have r2 : k ≠ 0 → (l.all fun m => roomF m.2 k 1048576) = false → rsF (c, l) k = ((0, []), false) := fun h h2 => by unfold rsF; rw [if_neg h, if_neg (fun q => by rw [h2] at q; cases q.2)]
    have r3 : k ≠ 0 → roomF c k 1099511627776 = true → (l.all fun m => roomF m.2 k 1048576) = true → rsF (c, l) k = ((IntKind.i64.wrap (c * k), l.map (rsM k)), true) := fun h h2 h3 => by unfold rsF; rw [if_neg h, if_pos ⟨h2, h3⟩]
    refine ⟨fun h => ?_, fun h => ?_⟩
    · have hz : k = 0 := eq_of_beq h
      exact ⟨.tup2 (.agg2 (.int (by rw [r0 hz])) (by rw [r0 hz]; exact .nilO ..)) (.btt (by rw [r0 hz])), rfl⟩
    have hk : k ≠ 0 := fun z => by have h : (k == 0) = false := h; rw [z] at h; simp at h
    refine ⟨(c, k, 1099511627776), ⟨.refl _, .refl _, .refl _, trivial⟩, rfl, (show ((0 : Int) ≤ 1099511627776 ∧ (1099511627776 : Int) ≤ 1099511627776) ∧ -4611686018427387904 ≤ k ∧ k ≤ 4611686018427387904 by omega), fun h1 => ?_, fun h1 => ?_⟩
    · have e0 := r1 hk (ynot h1)
      exact ⟨.tup2 (.agg2 (.int (by rw [e0])) (by rw [e0]; exact .nilO ..)) (.bff (by rw [e0])), rfl⟩
    have hc : roomF c k 1099511627776 = true := nnot h1
    refine ⟨Nat × List (Int × Int), fun s => [(1, I k), (2, .box 2 0), (4, .box 4 0), (6, .box 6 0), (7, I s.1)], fun s => [(2, [I c, monos l]), (4, [I 0, .val (.slice none 0 0)]), (6, [I (IntKind.i64.wrap (c * k)), monosO s.2 57])],
      fun s => s.1 ≤ l.length ∧ s.2 ++ (l.drop s.1).map (rsM k) = l.map (rsM k) ∧ s.2.length ≤ s.1 ∧ (l.drop s.1).all (fun m => roomF m.2 k 1048576) = l.all (fun m => roomF m.2 k 1048576), fun s => l.length - s.1,
      ⟨(0, []), ⟨Nat.zero_le _, rfl, Nat.le_refl _, rfl⟩, ⟨⟨rfl, rfl⟩, ?_⟩⟩, fun ((i, o) : Nat × List (Int × Int)) hi => ?_⟩
    · refine ⟨?_, ?_⟩
      · exact .refl _
      · skip
        refine ⟨?_, ?_⟩
        · exact .refl _
        · skip
          refine ⟨?_, ?_⟩
          · exact .refl _
          · skip
            refine ⟨?_, ?_⟩
            · exact .refl _
            · skip
              refine ⟨?_, ?_⟩
              · exact .refl _
              · skip
                refine ⟨?_, ?_⟩
                · exact ⟨.refl _, .refl _, trivial⟩
                · skip
                  refine ⟨?_, ?_⟩
                  · exact ⟨.refl _, .refl _, trivial⟩
                  · skip
                    refine ⟨?_, ?_⟩
                    · exact ⟨.refl _, .nilO .., trivial⟩
                    · skip
                      exact trivial
    have hil : i ≤ l.length := hi.1
    have hm : o ++ (l.drop i).map (rsM k) = l.map (rsM k) := hi.2.1
    have hol : o.length ≤ i := hi.2.2.1
    have ha : (l.drop i).all (fun m => roomF m.2 k 1048576) = l.all (fun m => roomF m.2 k 1048576) := hi.2.2.2
    have hwj : IntKind.i64.wrap ((i : Int) + 1) = ((i + 1 : Nat) : Int) := by rw [wrap_eq _ (by omega) (by omega)]; omega
    refine ⟨fun h => ?_, fun h => ?_⟩
    · have hlt : i < l.length := of_decide_lt h
      have hm2 := map_step (0, 0) hlt hm
      rw [drop_at (0, 0) l i hlt, List.all_cons] at ha
      refine ⟨⟨by omega, by dsimp only; omega⟩, ?_⟩
      refine ⟨((l.getD i (0, 0)).2, k, 1048576), ⟨.refl _, .refl _, .refl _, trivial⟩, rfl, (show ((0 : Int) ≤ 1048576 ∧ (1048576 : Int) ≤ 1099511627776) ∧ -4611686018427387904 ≤ k ∧ k ≤ 4611686018427387904 by omega), fun h2 => ?_, fun h2 => ?_⟩
      · have h2 : roomF (l.getD i (0, 0)).2 k 1048576 = false := ynot h2
        rw [h2, Bool.false_and] at ha
        have e0 := r2 hk ha.symm
        exact ⟨.tup2 (.agg2 (.int (by rw [e0])) (by rw [e0]; exact .nilO ..)) (.bff (by rw [e0])), rfl⟩
      have h2 : roomF (l.getD i (0, 0)).2 k 1048576 = true := nnot h2
      rw [h2, Bool.true_and] at ha
      refine ⟨?_, ?_⟩
      · kernel_rfl
      · skip
        refine ⟨?_, ?_⟩
        · exact ⟨Int.natCast_nonneg _, by dsimp only; omega⟩
        · skip
          refine ⟨?_, ?_⟩
          · exact ⟨Int.natCast_nonneg _, by dsimp only; omega⟩
          · skip
            refine ⟨Int × Int, monoC, (0, 0), [rsM k (l.getD i (0, 0))], ⟨rfl, fun _ => rfl⟩, ⟨.refl _, .refl _, trivial⟩, rfl, ?_⟩
            refine ⟨Int × Int, monoC, (0, 0), o, [rsM k (l.getD i (0, 0))], 57, ⟨.refl _, .own ..⟩, fun _ => rfl, (by simp only [List.length_cons, List.length_nil]; omega), ?_⟩
            exact ⟨(i + 1, o ++ [rsM k (l.getD i (0, 0))]), ⟨hlt, hm2, (by simp only [List.length_append, List.length_cons, List.length_nil]; omega), ha⟩, (by show l.length - (i + 1) < l.length - i; omega), ⟨rfl, rfl⟩, .refl _, .int hwj, .refl _, .refl _, .refl _, ⟨.refl _, .refl _, trivial⟩, ⟨.refl _, .refl _, trivial⟩, ⟨.refl _, .refl _, trivial⟩, trivial⟩
    · have hge : i = l.length := of_decide_ge h hil
      subst hge
      rw [List.drop_length, List.map_nil, List.append_nil] at hm
      rw [List.drop_length, List.all_nil] at ha
      have e0 := r3 hk hc ha.symm
      exact ⟨.tup2 (.agg2 (.int (by rw [e0])) (Sub.ownEq (by rw [e0]; exact hm))) (.btt (by rw [e0])), rfl⟩
/-! plain laws -/
theorem room_ok {a k most : Int} (h0 : 0 ≤ most) (hk : k ≠ 0) (h : roomF a k most = true) : -most ≤ a * k ∧ a * k ≤ most := by
  unfold roomF at h
  simp only [Bool.or_eq_true, Bool.and_eq_true, decide_eq_true_eq] at h
  rcases h with h | ⟨-, -, h1, h2⟩
  · rcases h with rfl | h
    · simp; omega
    · exact absurd h hk
  · have e1 : (-most).tdiv k.natAbs = -(most.tdiv k.natAbs) := Int.neg_tdiv _ _
    rw [e1] at h1
    have e2 : most.tdiv k.natAbs = most / k.natAbs := Int.tdiv_eq_ediv_of_nonneg h0
    rw [e2] at h1 h2
    have hp : (0 : Int) < k.natAbs := by omega
    have h3 : (a.natAbs : Int) * k.natAbs ≤ most := (Int.le_ediv_iff_mul_le hp).1 (by omega)
    have h4 : ((a * k).natAbs : Int) ≤ most := by rw [Int.natAbs_mul]; exact_mod_cast h3
    omega
theorem ord_scale (k : Int) (hk : k ≠ 0) : ∀ (l : List (Int × Int)) (lo : Int), ord lo l → (l.all fun m => roomF m.2 k 1048576) = true → ord lo (l.map (rsM k)) ∧ l.map (rsM k) = l.map fun m => (m.1, m.2 * k)
  | [], _, _, _ => ⟨trivial, rfl⟩
  | m :: r, lo, ⟨a, b, c, d, e, f⟩, h => by
    rw [List.all_cons, Bool.and_eq_true] at h
    obtain ⟨h1, h2⟩ := room_ok (by omega) hk h.1
    have hw : rsM k m = (m.1, m.2 * k) := by unfold rsM; rw [wrap_eq _ (by omega) (by omega)]
    obtain ⟨i1, i2⟩ := ord_scale k hk r m.1 f h.2
    rw [List.map_cons, List.map_cons, hw, i2]
    rw [i2] at i1
    refine ⟨⟨a, b, fun z => ?_, h1, h2, i1⟩, rfl⟩
    rcases Int.mul_eq_zero.1 z with q | q
    · exact c q
    · exact hk q
theorem gcd_mul (g : Nat) (x : Int) (k : Int) : Int.gcd ((g * k.natAbs : Nat) : Int) (x * k) = Int.gcd g x * k.natAbs := by
  unfold Int.gcd
  rw [Int.natAbs_mul, Int.natAbs_natCast, Int.natAbs_natCast]
  exact Nat.gcd_mul_right _ _ _
theorem gL_mul (k : Int) : ∀ (l : List (Int × Int)) (g : Nat), gL (g * k.natAbs) (l.map fun m => (m.1, m.2 * k)) = gL g l * k.natAbs
  | [], g => rfl
  | m :: r, g => by
    simp only [List.map_cons, gL]
    rw [gcd_mul, gL_mul k r]
theorem one_eq {c : (Int × List (Int × Int)) × Bool} (r : right c.1) (n : c.1.2 ≠ []) : oneF c = if c.2 = true ∧ c.1.1.tmod (gL 0 c.1.2) ≠ 0 then (((0, []), false), 1, 0)
    else (((sgF c * upF c.1.1 (gL 0 c.1.2), c.1.2.map fun m => (m.1, (sgF c * m.2).tdiv (gL 0 c.1.2))), c.2), 0, 0) := by unfold oneF; rw [if_pos r, if_neg n]
theorem tmod_mul (a b k : Int) (hk : 0 < k) : (a * k).tmod (b * k) = a.tmod b * k := by
  rw [Int.tmod_def, Int.tmod_def, Int.mul_tdiv_mul_of_pos_left _ _ hk, Int.sub_mul, Int.mul_right_comm]
theorem times_short {t : Int × List (Int × Int)} {e : Bool} {k : Int} (r : right t) (hk : 0 < k ∧ k ≤ 50) (hb : -1073741824 ≤ t.1 ∧ t.1 ≤ 1073741824) (h : (rsF t k).2 = true) :
    (rsF t k).1.2.length ≤ 40 ∧ oneF ((rsF t k).1, e) = oneF (t, e) := by
  unfold rsF at h ⊢
  rw [if_neg (by omega)] at h ⊢
  split at h
  case isFalse => cases h
  rename_i q
  rw [if_pos q]
  obtain ⟨hc, hlen, ho⟩ := (right_iff _).1 r
  obtain ⟨o1, o2⟩ := ord_scale k (by omega) t.2 (-1) ho q.2
  have hcm := room_ok (by omega) (by omega) q.1
  have hw : IntKind.i64.wrap (t.1 * k) = t.1 * k := wrap_eq _ (by omega) (by omega)
  rw [hw]
  rw [o2] at o1 ⊢
  have r2 : right (t.1 * k, t.2.map fun m => (m.1, m.2 * k)) := (right_iff _).2 ⟨hcm, by simpa using hlen, o1⟩
  refine ⟨by simpa using hlen, ?_⟩
  by_cases hn : t.2 = []
  · have ha : alwaysF ((t.1 * k, t.2.map fun m => (m.1, m.2 * k)), e) = alwaysF (t, e) := by
      unfold alwaysF
      have h1 : t.1 * k = 0 ↔ t.1 = 0 := ⟨fun z => (Int.mul_eq_zero.1 z).elim (fun z => z) (fun z => by omega), fun z => by rw [z]; simp⟩
      have h2 : t.1 * k < 0 ↔ t.1 < 0 := ⟨fun z => Classical.byContradiction fun w => by have := Int.mul_nonneg (show 0 ≤ t.1 by omega) (show 0 ≤ k by omega); omega, fun z => Int.mul_neg_of_neg_of_pos z hk.1⟩
      simp only [h1, h2]
    unfold oneF
    rw [if_pos r2, if_pos r, if_pos hn, if_pos (by simp [hn]), ha]
  · have n2 : (t.2.map fun m => (m.1, m.2 * k)) ≠ [] := by simpa using hn
    rw [one_eq (c := ((t.1 * k, t.2.map fun m => (m.1, m.2 * k)), e)) r2 n2, one_eq (c := (t, e)) r hn]
    have hg := gL_mul k t.2 0
    rw [Nat.zero_mul] at hg
    have hkn : (k.natAbs : Int) = k := by omega
    have hs : sgF ((t.1 * k, t.2.map fun m => (m.1, m.2 * k)), e) = sgF (t, e) := by
      unfold sgF
      cases hl : t.2 with
      | nil => exact absurd hl hn
      | cons m rr =>
        simp only [List.map_cons, List.getD_cons_zero]
        have h2 : m.2 * k < 0 ↔ m.2 < 0 := ⟨fun z => Classical.byContradiction fun w => by have := Int.mul_nonneg (show 0 ≤ m.2 by omega) (show 0 ≤ k by omega); omega, fun z => Int.mul_neg_of_neg_of_pos z hk.1⟩
        simp only [h2]
    have hu : upF (t.1 * k) ((gL 0 t.2 : Nat) * k) = upF t.1 (gL 0 t.2) := by
      unfold upF
      rw [tmod_mul _ _ _ hk.1, Int.mul_tdiv_mul_of_pos_left _ _ hk.1]
      have h2 : t.1.tmod (gL 0 t.2) * k > 0 ↔ t.1.tmod (gL 0 t.2) > 0 := ⟨fun z => Classical.byContradiction fun w => by have := Int.mul_nonneg (show 0 ≤ -(t.1.tmod (gL 0 t.2)) by omega) (show 0 ≤ k by omega); rw [Int.neg_mul] at this; omega, fun z => Int.mul_pos z hk.1⟩
      simp only [h2]
    have hz : (t.1 * k).tmod ((gL 0 t.2 : Nat) * k) ≠ 0 ↔ t.1.tmod (gL 0 t.2) ≠ 0 := by
      rw [tmod_mul _ _ _ hk.1]
      exact ⟨fun w z => w (by rw [z]; simp), fun w z => (Int.mul_eq_zero.1 z).elim w (fun z => by omega)⟩
    rw [hg, hs]
    simp only [Int.natCast_mul, hkn, hu, hz, List.map_map]
    have hmap : (t.2.map ((fun m : Int × Int => (m.1, (sgF (t, e) * m.2).tdiv ((gL 0 t.2 : Nat) * k))) ∘ fun m => (m.1, m.2 * k))) = t.2.map fun m => (m.1, (sgF (t, e) * m.2).tdiv (gL 0 t.2 : Nat)) := by
      refine List.map_congr_left fun m hm => ?_
      simp only [Function.comp]
      rw [← Int.mul_assoc, Int.mul_tdiv_mul_of_pos_left _ _ hk.1]
    rw [hmap]
theorem turned_short {t : Int × List (Int × Int)} (r : right t) (h : (rsF t (-1)).2 = true) :
    (rsF t (-1)).1.2.length ≤ 40 ∧ (oneF ((rsF t (-1)).1, true)).2.2 = 0 ∧ (oneF ((rsF t (-1)).1, true)).2.1 = (oneF (t, true)).2.1 ∧ (oneF ((rsF t (-1)).1, true)).1.1 = (oneF (t, true)).1.1 := by
  unfold rsF at h ⊢
  rw [if_neg (by omega)] at h ⊢
  split at h
  case isFalse => cases h
  rename_i q
  rw [if_pos q]
  obtain ⟨hc, hlen, ho⟩ := (right_iff _).1 r
  obtain ⟨o1, o2⟩ := ord_scale (-1) (by omega) t.2 (-1) ho q.2
  have hcm := room_ok (by omega) (by omega) q.1
  have hw : IntKind.i64.wrap (t.1 * (-1)) = t.1 * (-1) := wrap_eq _ (by omega) (by omega)
  rw [hw]
  rw [o2] at o1 ⊢
  have r2 : right (t.1 * (-1), t.2.map fun m => (m.1, m.2 * (-1))) := (right_iff _).2 ⟨hcm, by simpa using hlen, o1⟩
  refine ⟨by simpa using hlen, one_right (c := (_, true)) r2, ?_⟩
  by_cases hn : t.2 = []
  · have ha : alwaysF ((t.1 * (-1), t.2.map fun m => (m.1, m.2 * (-1))), true) = alwaysF (t, true) := by
      unfold alwaysF
      have h1 : t.1 * (-1) = 0 ↔ t.1 = 0 := by omega
      simp only [h1]
      simp
    unfold oneF
    rw [if_pos r2, if_pos r, if_pos hn, if_pos (by simp [hn]), ha]
    exact ⟨rfl, rfl⟩
  · have n2 : (t.2.map fun m => (m.1, m.2 * (-1))) ≠ [] := by simpa using hn
    rw [one_eq (c := ((t.1 * (-1), t.2.map fun m => (m.1, m.2 * (-1))), true)) r2 n2, one_eq (c := (t, true)) r hn]
    have hg := gL_mul (-1) t.2 0
    rw [Nat.zero_mul, show ((-1 : Int)).natAbs = 1 from rfl, Nat.mul_one] at hg
    obtain ⟨x1, x2, x3, x4⟩ : ∃ m rr, t.2 = m :: rr ∧ m.2 ≠ 0 := by
      cases hl : t.2 with
      | nil => exact absurd hl hn
      | cons m rr => rw [hl] at ho; exact ⟨m, rr, rfl, ho.2.2.1⟩
    have hs : sgF ((t.1 * (-1), t.2.map fun m => (m.1, m.2 * (-1))), true) = - sgF (t, true) := by
      unfold sgF
      rw [x3]
      simp only [List.map_cons, List.getD_cons_zero, true_and]
      by_cases z : x1.2 < 0
      · rw [if_pos z, if_neg (by omega)]; rfl
      · rw [if_neg z, if_pos (by omega)]
    have hz : (t.1 * (-1)).tmod (gL 0 t.2) ≠ 0 ↔ t.1.tmod (gL 0 t.2) ≠ 0 := by
      rw [Int.mul_neg_one, Int.neg_tmod]; omega
    rw [hg, hs]
    by_cases hx : t.1.tmod (gL 0 t.2) = 0
    · rw [if_neg (by rw [hz]; simp [hx]), if_neg (by simp [hx])]
      refine ⟨rfl, ?_⟩
      have u1 : upF (t.1 * (-1)) (gL 0 t.2) = - upF t.1 (gL 0 t.2) := by
        unfold upF
        rw [Int.mul_neg_one, Int.neg_tmod, Int.neg_tdiv, hx, if_neg (by omega), if_neg (by omega)]
      refine Prod.ext ?_ ?_
      · dsimp only
        rw [u1, Int.neg_mul_neg]
      · dsimp only
        rw [List.map_map]
        refine List.map_congr_left fun m hm => ?_
        simp only [Function.comp]
        rw [Int.mul_neg_one, Int.neg_mul_neg]
    · rw [if_pos ⟨rfl, hz.2 hx⟩, if_pos ⟨rfl, hx⟩]
      exact ⟨rfl, rfl⟩
end Go.Proofs.Ytobadhbdhomjnaa.Ax
