/- Layer norm by the logic: the short forms of constraints. -/
import Derived.Test.YtobadhbdhomjnaaNa
set_option linter.unusedVariables false
set_option linter.unusedSimpArgs false
namespace Go.Proofs.Ytobadhbdhomjnaa.Ax
open Go Go.RowKit
def aL : Bool → List ((Int × List (Int × Int)) × Bool) → List ((Int × List (Int × Int)) × Bool) → List ((Int × List (Int × Int)) × Bool) × Int × Int
  | nv, out, [] => if nv then ([], 1, 0) else if out = [] then ([], 2, 0) else (out, 0, 0)
  | nv, out, c :: r => if (oneF c).2.2 ≠ 0 then ([], 0, (oneF c).2.2) else aL (nv || (oneF c).2.1 == 1) (if ((oneF c).2.1 == 0 && !out.any (same_pred (oneF c).1)) = true then out ++ [(oneF c).1] else out) r
def allF (l : List ((Int × List (Int × Int)) × Bool)) : List ((Int × List (Int × Int)) × Bool) × Int × Int := aL false [] l
theorem oneF_len (c : (Int × List (Int × Int)) × Bool) : (oneF c).1.1.2.length ≤ 40 := by
  unfold oneF
  split
  · rename_i r
    have := r.2.2.1
    split
    · simp
    · split
      · simp
      · simpa using this
  · simp
def norm_All : Ctr := { A := List ((Int × List (Int × Int)) × Bool), enc := fun l => [conses l], dom := fun l => l.length ≤ 1000000, res := fun l id => .tup [consesO (allF l).1 id, I (allF l).2.1, I (allF l).2.2] }
set_option maxRecDepth 100000 in
set_option maxHeartbeats 4000000 in
theorem norm_All_ok : CtrSound Try.prog 17 norm_All :=
  ctr_of_ax (env_ok tys_ok (eqs := []) trivial (cs := [(13, norm_One), (31, same_has)]) ⟨norm_One_ok, same_has_ok same_lit_ok, trivial⟩) mixed _ Try.func17 (by kernel_rfl) rfl (fun _ _ => Nat.le_of_ble_eq_true rfl) fun (l : List ((Int × List (Int × Int)) × Bool)) id hd => by
    have hd : l.length ≤ 1000000 := hd
    refine ⟨Nat × Bool × List ((Int × List (Int × Int)) × Bool), fun s => [(0, conses l), (2, consesO s.2.2 42), (5, B s.2.1), (11, conses l), (12, I l.length), (13, I s.1)], fun _ => [],
      fun s => s.1 ≤ l.length ∧ aL s.2.1 s.2.2 (l.drop s.1) = allF l ∧ s.2.2.length ≤ s.1 ∧ ∀ y ∈ s.2.2, y.1.2.length ≤ 4611686018427387904, fun s => l.length - s.1,
      ⟨(0, false, []), ⟨Nat.zero_le _, rfl, Nat.le_refl _, fun y hy => by cases hy⟩, ⟨⟨rfl, rfl⟩, ?_⟩⟩, fun ((i, nv, o) : Nat × Bool × List ((Int × List (Int × Int)) × Bool)) hi => ?_⟩
    · refine ⟨?_, ?_⟩
      · exact .refl _
      · skip
        refine ⟨?_, ?_⟩
        · exact .refl _
        · skip
          refine ⟨?_, ?_⟩
          · exact .ff
          · skip
            refine ⟨?_, ?_⟩
            · exact .refl _
            · skip
              refine ⟨?_, ?_⟩
              · exact .nilO ..
              · skip
                refine ⟨?_, ?_⟩
                · exact .refl _
                · skip
                  exact trivial
    have hil : i ≤ l.length := hi.1
    have hk : aL nv o (l.drop i) = allF l := hi.2.1
    have hol : o.length ≤ i := hi.2.2.1
    have hom : ∀ y ∈ o, y.1.2.length ≤ 4611686018427387904 := hi.2.2.2
    have hwj : IntKind.i64.wrap ((i : Int) + 1) = ((i + 1 : Nat) : Int) := by rw [wrap_eq _ (by omega) (by omega)]; omega
    refine ⟨fun h => ?_, fun h => ?_⟩
    · have hlt : i < l.length := of_decide_lt h
      rw [drop_at ((0, []), false) l i hlt, aL] at hk
      refine ⟨⟨by omega, by dsimp only; omega⟩, ?_⟩
      have hcl := oneF_len (l.getD i ((0, []), false))
      refine ⟨l.getD i ((0, []), false), ⟨.agg3 (.refl _) (.refl _) (.refl _), trivial⟩, rfl, trivial, ?_⟩
      have r1 : ((oneF (l.getD i ((0, []), false))).2.2 != 0) = true → allF l = ([], 0, (oneF (l.getD i ((0, []), false))).2.2) := fun h => by rw [← hk, if_pos (by simpa using h)]
      have r2 : ((oneF (l.getD i ((0, []), false))).2.2 != 0) = false → aL (nv || (oneF (l.getD i ((0, []), false))).2.1 == 1) (if ((oneF (l.getD i ((0, []), false))).2.1 == 0 && !o.any (same_pred (oneF (l.getD i ((0, []), false))).1)) = true then o ++ [(oneF (l.getD i ((0, []), false))).1] else o) (l.drop (i + 1)) = allF l := fun h => by rw [← hk]; exact (if_neg (fun c => c (by simpa using h))).symm
      have r3 : ((oneF (l.getD i ((0, []), false))).2.2 != 0) = false → ((oneF (l.getD i ((0, []), false))).2.1 == 0) = true → (!o.any (same_pred (oneF (l.getD i ((0, []), false))).1)) = true → aL (nv || (oneF (l.getD i ((0, []), false))).2.1 == 1) (o ++ [(oneF (l.getD i ((0, []), false))).1]) (l.drop (i + 1)) = allF l := fun h h2 h3 => by have := r2 h; rw [h2, h3] at this; exact this
      have r4 : ((oneF (l.getD i ((0, []), false))).2.2 != 0) = false → ((oneF (l.getD i ((0, []), false))).2.1 == 0) = true → (!o.any (same_pred (oneF (l.getD i ((0, []), false))).1)) = false → aL (nv || (oneF (l.getD i ((0, []), false))).2.1 == 1) o (l.drop (i + 1)) = allF l := fun h h2 h3 => by have := r2 h; rw [h2, h3] at this; exact this
      have r5 : ((oneF (l.getD i ((0, []), false))).2.2 != 0) = false → ((oneF (l.getD i ((0, []), false))).2.1 == 0) = false → aL (nv || (oneF (l.getD i ((0, []), false))).2.1 == 1) o (l.drop (i + 1)) = allF l := fun h h2 => by have := r2 h; rw [h2] at this; exact this
      have hox : ∀ y ∈ o ++ [(oneF (l.getD i ((0, []), false))).1], y.1.2.length ≤ 4611686018427387904 := fun y hy => by
        rcases List.mem_append.1 hy with q | q
        · exact hom y q
        · rw [List.mem_singleton.1 q]; omega
      cases nv
      · refine ⟨?_, ?_⟩
        · skip
          intro h -- ((oneF (l.getD i ((0, []), false))).snd.snd != 0) = true
          exact ⟨.tup3 (by rw [r1 h]; exact .nilO ..) (.int (by rw [r1 h])) (.int (by rw [r1 h])), rfl⟩
        · skip
          intro h -- ((oneF (l.getD i ((0, []), false))).snd.snd != 0) = false
          refine ⟨?_, ?_⟩
          · skip
            intro h -- (i, false, o).snd.fst = true
            dsimp only at h
            (exact Bool.noConfusion h)
          · skip
            intro h -- (i, false, o).snd.fst = false
            dsimp only at h
            refine ⟨?_, ?_⟩
            · skip
              intro h -- ((oneF (l.getD i ((0, []), false))).snd.fst == 0) = true
              refine ⟨(o, (oneF (l.getD i ((0, []), false))).1), ⟨.refl _, .refl _, trivial⟩, rfl, (show o.length ≤ 4611686018427387904 ∧ _ from ⟨by omega, hom⟩), ?_⟩
              refine ⟨?_, ?_⟩
              · skip
                intro h -- (!(o, (oneF (l.getD i ((0, []), false))).fst).fst.any (same_pred (o, (oneF (l.getD i ((0, []), false))).fst).snd)) = true
                dsimp only at h
                refine ⟨(Int × List (Int × Int)) × Bool, consC, ((0, []), false), [(oneF (l.getD i ((0, []), false))).1], ⟨rfl, fun _ => rfl⟩, ⟨.refl _, .own .., .refl _, trivial⟩, rfl, ?_⟩
                refine ⟨(Int × List (Int × Int)) × Bool, consC, ((0, []), false), o, [(oneF (l.getD i ((0, []), false))).1], 42, ⟨.refl _, .own ..⟩, fun _ => rfl, (by simp only [List.length_cons, List.length_nil]; omega), ?_⟩
                exact ⟨(i + 1, ((oneF (l.getD i ((0, []), false))).2.1 == 1), o ++ [(oneF (l.getD i ((0, []), false))).1]), ⟨hlt, r3 ‹((oneF (l.getD i ((0, []), false))).2.2 != 0) = false› ‹((oneF (l.getD i ((0, []), false))).2.1 == 0) = true› h, (by simp only [List.length_append, List.length_cons, List.length_nil]; omega), hox⟩, (by show l.length - (i + 1) < l.length - i; omega), ⟨rfl, rfl⟩, .refl _, .refl _, .refl _, .int hwj, .refl _, .refl _, trivial⟩
              · skip
                intro h -- (!(o, (oneF (l.getD i ((0, []), false))).fst).fst.any (same_pred (o, (oneF (l.getD i ((0, []), false))).fst).snd)) = false
                dsimp only at h
                exact ⟨(i + 1, ((oneF (l.getD i ((0, []), false))).2.1 == 1), o), ⟨hlt, r4 ‹((oneF (l.getD i ((0, []), false))).2.2 != 0) = false› ‹((oneF (l.getD i ((0, []), false))).2.1 == 0) = true› h, Nat.le_succ_of_le hol, hom⟩, (by show l.length - (i + 1) < l.length - i; omega), ⟨rfl, rfl⟩, .refl _, .refl _, .refl _, .int hwj, .refl _, .refl _, trivial⟩
            · skip
              intro h -- ((oneF (l.getD i ((0, []), false))).snd.fst == 0) = false
              exact ⟨(i + 1, ((oneF (l.getD i ((0, []), false))).2.1 == 1), o), ⟨hlt, r5 ‹((oneF (l.getD i ((0, []), false))).2.2 != 0) = false› h, Nat.le_succ_of_le hol, hom⟩, (by show l.length - (i + 1) < l.length - i; omega), ⟨rfl, rfl⟩, .refl _, .refl _, .refl _, .int hwj, .refl _, .refl _, trivial⟩
      · refine ⟨?_, ?_⟩
        · skip
          intro h -- ((oneF (l.getD i ((0, []), false))).snd.snd != 0) = true
          exact ⟨.tup3 (by rw [r1 h]; exact .nilO ..) (.int (by rw [r1 h])) (.int (by rw [r1 h])), rfl⟩
        · skip
          intro h -- ((oneF (l.getD i ((0, []), false))).snd.snd != 0) = false
          refine ⟨?_, ?_⟩
          · skip
            intro h -- (i, true, o).snd.fst = true
            dsimp only at h
            refine ⟨?_, ?_⟩
            · skip
              intro h -- ((oneF (l.getD i ((0, []), false))).snd.fst == 0) = true
              refine ⟨(o, (oneF (l.getD i ((0, []), false))).1), ⟨.refl _, .refl _, trivial⟩, rfl, (show o.length ≤ 4611686018427387904 ∧ _ from ⟨by omega, hom⟩), ?_⟩
              refine ⟨?_, ?_⟩
              · skip
                intro h -- (!(o, (oneF (l.getD i ((0, []), false))).fst).fst.any (same_pred (o, (oneF (l.getD i ((0, []), false))).fst).snd)) = true
                dsimp only at h
                refine ⟨(Int × List (Int × Int)) × Bool, consC, ((0, []), false), [(oneF (l.getD i ((0, []), false))).1], ⟨rfl, fun _ => rfl⟩, ⟨.refl _, .own .., .refl _, trivial⟩, rfl, ?_⟩
                refine ⟨(Int × List (Int × Int)) × Bool, consC, ((0, []), false), o, [(oneF (l.getD i ((0, []), false))).1], 42, ⟨.refl _, .own ..⟩, fun _ => rfl, (by simp only [List.length_cons, List.length_nil]; omega), ?_⟩
                exact ⟨(i + 1, true, o ++ [(oneF (l.getD i ((0, []), false))).1]), ⟨hlt, r3 ‹((oneF (l.getD i ((0, []), false))).2.2 != 0) = false› ‹((oneF (l.getD i ((0, []), false))).2.1 == 0) = true› h, (by simp only [List.length_append, List.length_cons, List.length_nil]; omega), hox⟩, (by show l.length - (i + 1) < l.length - i; omega), ⟨rfl, rfl⟩, .refl _, .refl _, .tt, .int hwj, .refl _, .refl _, trivial⟩
              · skip
                intro h -- (!(o, (oneF (l.getD i ((0, []), false))).fst).fst.any (same_pred (o, (oneF (l.getD i ((0, []), false))).fst).snd)) = false
                dsimp only at h
                exact ⟨(i + 1, true, o), ⟨hlt, r4 ‹((oneF (l.getD i ((0, []), false))).2.2 != 0) = false› ‹((oneF (l.getD i ((0, []), false))).2.1 == 0) = true› h, Nat.le_succ_of_le hol, hom⟩, (by show l.length - (i + 1) < l.length - i; omega), ⟨rfl, rfl⟩, .refl _, .refl _, .tt, .int hwj, .refl _, .refl _, trivial⟩
            · skip
              intro h -- ((oneF (l.getD i ((0, []), false))).snd.fst == 0) = false
              exact ⟨(i + 1, true, o), ⟨hlt, r5 ‹((oneF (l.getD i ((0, []), false))).2.2 != 0) = false› h, Nat.le_succ_of_le hol, hom⟩, (by show l.length - (i + 1) < l.length - i; omega), ⟨rfl, rfl⟩, .refl _, .refl _, .tt, .int hwj, .refl _, .refl _, trivial⟩
          · skip
            intro h -- (i, true, o).snd.fst = false
            dsimp only at h
            (exact Bool.noConfusion h)
    · have hge : i = l.length := of_decide_ge h hil
      subst hge
      rw [List.drop_length, aL] at hk
      cases nv
      case true =>
        refine ⟨?_, ?_⟩
        · skip
          intro h -- (l.length, true, o).snd.fst = true
          dsimp only at h
          exact ⟨.tup3 (by rw [← hk]; exact .nilO ..) (.int (by rw [← hk]; rfl)) (.int (by rw [← hk]; rfl)), rfl⟩
        · skip
          intro h -- (l.length, true, o).snd.fst = false
          dsimp only at h
          (exact Bool.noConfusion h)
      case false =>
      have z1 : ((o.length : Int) == 0) = true → allF l = ([], 2, 0) := fun h => by
        have : o = [] := List.eq_nil_of_length_eq_zero (by have := eq_of_beq h; omega)
        rw [← hk, if_neg (by simp), if_pos this]
      have z2 : ((o.length : Int) == 0) = false → allF l = (o, 0, 0) := fun h => by
        rw [← hk, if_neg (by simp), if_neg (fun c => by rw [c] at h; simp at h)]
      refine ⟨?_, ?_⟩
      · skip
        intro h -- (l.length, false, o).snd.fst = true
        dsimp only at h
        (exact Bool.noConfusion h)
      · skip
        intro h -- (l.length, false, o).snd.fst = false
        dsimp only at h
        refine ⟨?_, ?_⟩
        · skip
          intro h -- (↑(l.length, false, o).snd.snd.length == 0) = true
          dsimp only at h
          exact ⟨.tup3 (by rw [z1 h]; exact .nilO ..) (.int (by rw [z1 h])) (.int (by rw [z1 h])), rfl⟩
        · skip
          intro h -- (↑(l.length, false, o).snd.snd.length == 0) = false
          dsimp only at h
          exact ⟨.tup3 (Sub.ownEq (by rw [z2 h])) (.int (by rw [z2 h])) (.int (by rw [z2 h])), rfl⟩
end Go.Proofs.Ytobadhbdhomjnaa.Ax
