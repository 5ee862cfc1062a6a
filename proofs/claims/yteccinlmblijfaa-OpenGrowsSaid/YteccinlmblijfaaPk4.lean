/- Walks and laws, part 4: A8 A14 A9 A10 A12 A13 A15 T Ui Lz Og. -/
import Derived.Test.YteccinlmblijfaaPk3
import Derived.Deep.Slices
import Derived.ChangeOld
import Derived.SizedLaws
import Derived.Carry
import Derived.Laws.StructEq
import Derived.Test.YteccinlmblijfaaProg
import Derived.WalkKit
import Derived.BigCall
import Derived.Lib.Hide
/- Steps that may change places; a region whose order is open. -/
set_option linter.unusedVariables false
set_option linter.unusedSimpArgs false
set_option linter.unusedSectionVars false
namespace Go.Proofs.Yteccinlmblijfaa.Ax
open Go Go.RowKit

/-! ### 1. Two steps change places -/
def refine1 (r : Option (Nat × Bool)) (fr : Tr SV) : Tr SV := match r with
  | some (g, b) => fr.put g (lit b)
  | none => fr
/-- A step, told in one way. -/
def Step2 (E : Env) (all : List Oper) (o : Oper) (s s' : ASt) : Prop :=
  ∃ (r : Option (Nat × Bool)) (v : SV) (b : Tr (Option (List SV))), s' = ⟨setD o.dst v (refine1 r s.fr), b⟩ ∧
    (∀ g c, r = some (g, c) → g ∈ gIn all o ∧ (s.fr.get g .junk = lit c ∨ s.fr.get g .junk = .val (.bool c))) ∧
    ((v = .val undef ∧ b = s.bx ∧ (∃ j c g, o.guard = some (j, c) ∧ gOf all j = some g ∧ (r = some (g, !c) ∨ r = none ∧ ∃ x, s.fr.get g .junk = .val (.tuple x)))) ∨
     ((∀ k' : SV → Tr (Option (List SV)) → Prop, k' v b → stepB E (dOf o.dst) o.op (ev ⟨refine1 r s.fr, s.bx⟩) s.bx k') ∧
       (o.guard = none ∧ r = none ∨ ∃ j c g, o.guard = some (j, c) ∧ gOf all j = some g ∧ r = some (g, c))))

theorem gIn_of {all : List Oper} {o : Oper} {j : Nat} {c : Bool} {g : Nat} (hg : o.guard = some (j, c)) (hj : gOf all j = some g) : gIn all o = [g] := by
  unfold gIn; rw [hg]; simp [hj]
theorem Step1.to2 {E : Env} {all : List Oper} {o : Oper} {s s' : ASt} (ha : isApp o.op = none) (hz : isFrz E.bs o = none) (h : Step1 E all o s s') : Step2 E all o s s' := by
  cases h with
  | plain _ hg h =>
    rcases h with ⟨-, -, v, b, h1, rfl⟩ | ⟨_, _, _, _, hb, -⟩ | ⟨-, hb, -⟩
    case inr.inl => rw [ha] at hb; cases hb
    case inr.inr => rcases hb with hb | hb; exact absurd ha hb; exact absurd hz hb
    exact ⟨none, v, b, rfl, fun _ _ e => by (cases e), .inr ⟨h1, .inl ⟨hg, rfl⟩⟩⟩
  | run _ s0 j b g hg hj hr h =>
    obtain ⟨hr1, rfl⟩ := hr
    rcases h with ⟨-, -, v, b', h1, rfl⟩ | ⟨_, _, _, _, hb, -⟩ | ⟨-, hb, -⟩
    case inr.inl => rw [ha] at hb; cases hb
    case inr.inr => rcases hb with hb | hb; exact absurd ha hb; exact absurd hz hb
    exact ⟨some (g, b), v, b', rfl, fun _ _ e => by (cases e; exact ⟨by rw [gIn_of hg hj]; simp, hr1⟩), .inr ⟨h1, .inr ⟨j, b, g, hg, hj, rfl⟩⟩⟩
  | skip s0 j b g hg hj hr =>
    obtain ⟨hr1, rfl⟩ := hr
    exact ⟨some (g, !b), .val undef, s.bx, rfl, fun _ _ e => by (cases e; exact ⟨by rw [gIn_of hg hj]; simp, hr1⟩), .inl ⟨rfl, rfl, j, b, g, hg, hj, .inl rfl⟩⟩
  | void j b g x hg hj hr =>
    exact ⟨none, .val undef, s.bx, rfl, fun _ _ e => by (cases e), .inl ⟨rfl, rfl, j, b, g, hg, hj, .inr ⟨rfl, x, hr⟩⟩⟩
theorem Step2.to1 {E : Env} {all : List Oper} {o : Oper} {s s' : ASt} (ha : isApp o.op = none) (hz : isFrz E.bs o = none) (h : Step2 E all o s s') : Step1 E all o s s' := by
  obtain ⟨r, v, b, rfl, hr, h⟩ := h
  rcases h with ⟨rfl, rfl, j, c, g, hg, hj, h⟩ | ⟨h1, h⟩
  · rcases h with rfl | ⟨rfl, x, hx⟩
    · exact .skip ⟨s.fr.put g (lit !c), s.bx⟩ j c g hg hj ⟨(hr _ _ rfl).2, rfl⟩
    · exact .void j c g x hg hj hx
  · rcases h with ⟨hg, rfl⟩ | ⟨j, c, g, hg, hj, rfl⟩
    · exact .plain _ hg (.inl ⟨ha, hz, v, b, h1, rfl⟩)
    · exact .run _ ⟨s.fr.put g (lit c), s.bx⟩ j c g hg hj ⟨(hr _ _ rfl).2, rfl⟩ (.inl ⟨ha, hz, v, b, h1, rfl⟩)

theorem setD_has {α : Type _} (d : Option Nat) (v : α) (l : Tr α) (j : Nat) : (setD d v l).has j = l.has j := by
  cases d with
  | none => rfl
  | some d => exact Tr.has_put _ _ _ _
theorem setD_like {α : Type _} (d : Option Nat) (v : α) (l : Tr α) : (setD d v l).like l := by
  cases d with
  | none => exact Tr.like_refl _
  | some d => exact Tr.like_put _ _ _
theorem refine1_has (r : Option (Nat × Bool)) (l : Tr SV) (j : Nat) : (refine1 r l).has j = l.has j := by
  cases r with
  | none => rfl
  | some r => exact Tr.has_put _ _ _ _
theorem refine1_like (r : Option (Nat × Bool)) (l : Tr SV) : (refine1 r l).like l := by
  cases r with
  | none => exact Tr.like_refl _
  | some r => exact Tr.like_put _ _ _
theorem at'_setD {α : Type _} (d : Option Nat) (v e : α) (l : Tr α) (j : Nat) : (setD d v l).get j e = if d = some j ∧ l.has j = true then v else l.get j e := by
  cases d with
  | none => simp [setD]
  | some d => simp [setD, Tr.get_put]
theorem at'_refine1 (r : Option (Nat × Bool)) (l : Tr SV) (j : Nat) : (refine1 r l).get j .junk = match r with
    | some (g, b) => if g = j ∧ l.has j = true then lit b else l.get j .junk
    | none => l.get j .junk := by
  cases r with
  | none => rfl
  | some r => obtain ⟨g, b⟩ := r; simp [refine1, Tr.get_put]

section
variable {E : Env} {all : List Oper} {x y : Oper} {s s1 t : ASt}
theorem indep_spec (h : indep E.bs all x y = true) :
    (∀ d, x.dst = some d → d ∉ tmpsIn y.op ∧ d ∉ gIn all y ∧ y.dst ≠ some d) ∧ (∀ d, y.dst = some d → d ∉ tmpsIn x.op ∧ d ∉ gIn all x) ∧
    (∀ g ∈ gIn all x, g ∉ tmpsIn y.op) ∧ (∀ g ∈ gIn all y, g ∉ tmpsIn x.op) ∧
    (memW E.bs (dOf x.dst) x.op = true → (memR y.op = false ∧ memW E.bs (dOf y.dst) y.op = false) ∨ (qp E.bs x.op y.op = true)) ∧ (memW E.bs (dOf y.dst) y.op = true → (memR x.op = false ∨ memA y.op = true ∨ (qp E.bs y.op x.op = true)) ∧ memW E.bs (dOf x.dst) x.op = false) ∧ ((isApp x.op = none ∧ (isApp y.op = none ∨ (easyL E.bs x = true ∧ sameG x.guard y.guard = true ∧ vecD E.bs (dOf y.dst) = false))) ∨ (isApp x.op ≠ none ∧ isApp y.op = none ∧ easyL E.bs y = true ∧ sameG x.guard y.guard = true ∧ vecD E.bs (dOf x.dst) = false)) ∧ isFrz E.bs x = none ∧ isFrz E.bs y = none := by
  unfold indep at h
  simp only [Bool.and_eq_true] at h
  obtain ⟨⟨⟨⟨⟨⟨⟨⟨h1, h2⟩, h3⟩, h4⟩, h5⟩, h6⟩, h8⟩, h9⟩, h10⟩ := h
  refine ⟨?_, ?_, ?_, ?_, ?_, ?_, ?_, by simpa using h9, by simpa using h10⟩
  case refine_7 =>
    cases hx : isApp x.op with
    | none =>
      rw [hx] at h8
      exact .inl ⟨rfl, by simpa [and_assoc] using h8⟩
    | some z =>
      rw [hx] at h8
      exact .inr ⟨by simp, by simpa [and_assoc] using h8⟩
  · intro d hd
    rw [hd] at h1
    simpa [and_assoc] using h1
  · intro d hd
    rw [hd] at h2
    simpa using h2
  · intro g hg
    have := List.all_eq_true.1 h3 g hg
    simpa using this
  · intro g hg
    have := List.all_eq_true.1 h4 g hg
    simpa using this
  · intro hw
    rw [hw] at h5
    cases hq : qp E.bs x.op y.op with
    | true => exact .inr rfl
    | false => rw [hq] at h5; exact .inl (by simpa using h5)
  · intro hw
    rw [hw] at h6 h5
    constructor
    · cases h9 : memR x.op with
      | false => exact .inl rfl
      | true =>
        rw [h9] at h6
        cases hq : qp E.bs y.op x.op with
        | true => exact .inr (.inr rfl)
        | false => rw [hq] at h6; exact .inr (.inl (by simpa using h6))
    · cases hx : memW E.bs (dOf x.dst) x.op with
      | false => rfl
      | true =>
        rw [hx] at h5
        cases hq : qp E.bs x.op y.op with
        | true =>
          cases hy : y.op <;> rw [hy] at hq hw <;> first | (simp [memW] at hw; done) | (simp [qp, isQL, isSL] at hq; done)
        | false => rw [hq] at h5; simp at h5

theorem ev_same {f f' : Tr SV} {bx bx' : Tr (Option (List SV))} {op : Op} (h : ∀ t ∈ tmpsIn op, f.get t .junk = f'.get t .junk) : ∀ z ∈ op.operands, ev ⟨f, bx⟩ z = ev ⟨f', bx'⟩ z := by
  intro z hz
  cases z with
  | tmp t => exact h t (mem_tmpsIn hz)
  | _ => rfl

theorem dgrs_drop (i j : Nat) : ∀ (o : Nat) (l : List SV), dgr.dgrs i j (dropN o l) = dropN o (dgr.dgrs i j l)
  | 0, _ => rfl
  | _ + 1, [] => rfl
  | o + 1, _ :: xs => dgrs_drop i j o xs
theorem dgrs_take (i j : Nat) : ∀ (o : Nat) (l : List SV), dgr.dgrs i j (takeN o l) = takeN o (dgr.dgrs i j l)
  | 0, _ => rfl
  | _ + 1, [] => rfl
  | o + 1, x :: xs => by simp only [takeN, dgr.dgrs, dgrs_take i j o xs]
theorem whole_dgr (i j : Nat) (agg : Bool) (l : List SV) : whole agg (dgr.dgrs i j l) = dgr i j (whole agg l) := by
  cases agg with
  | true => rfl
  | false => exact at'_dgrs i j l 0
mutual
theorem dgr_free (i j : Nat) : ∀ (x : SV), ownFree x = true → dgr i j x = x
  | .own .., h => by simp [ownFree] at h
  | .agg l, h => by simp only [dgr]; rw [dgrs_free i j l (by simpa [ownFree] using h)]
  | .tup l, h => by simp only [dgr]; rw [dgrs_free i j l (by simpa [ownFree] using h)]
  | .fn g l, h => by simp only [dgr]; rw [dgrs_free i j l (by simpa [ownFree] using h)]
  | .val _, h => rfl
  | .tt, h => rfl
  | .ff, h => rfl
  | .row .., h => rfl
  | .elt .., h => rfl
  | .box .., h => rfl
  | .arr .., h => rfl
  | .plc .., h => rfl
  | .many .., h => rfl
  | .ifc, h => rfl
  | .e0, h => rfl
  | .nb _, h => rfl
  | .junk, h => rfl
theorem dgrs_free (i j : Nat) : ∀ (l : List SV), ownFree.ownFrees l = true → dgr.dgrs i j l = l
  | [], _ => rfl
  | x :: xs, h => by
    simp only [ownFree.ownFrees] at h
    cases hx : ownFree x with
    | false => rw [hx] at h; cases h
    | true => rw [hx] at h; simp only [dgr.dgrs]; rw [dgr_free i j x hx, dgrs_free i j xs h]
end
/-- what only looks at a variable comes to the same where a row grew before -/
theorem easy_dgr {E : Env} {d : Nat} {op : Op} {fr fr' : Tr SV} {bx : Tr (Option (List SV))} {v : SV} {i j : Nat} (he : easy op = true) (hf : ∀ q ∈ tmpsIn op, fr'.get q .junk = dgr i j (fr.get q .junk))
    (h : ∀ k' : SV → Tr (Option (List SV)) → Prop, k' v bx → stepB E d op (ev ⟨fr, bx⟩) bx k') (k' : SV → Tr (Option (List SV)) → Prop) (hk : k' (dgr i j v) (dgrB i j bx)) :
    stepB E d op (ev ⟨fr', dgrB i j bx⟩) (dgrB i j bx) k' := by
  have h0 := h (fun v' b' => v' = v) rfl
  cases op with
  | move x =>
    cases x with
    | tmp q =>
      simp only [stepB, force_eq] at h0 ⊢
      have := hf q (by simp [tmpsIn, Op.operands])
      show k' (fr'.get q .junk) _
      rw [this, show fr.get q .junk = v from h0]; exact hk
    | _ => simp [easy] at he
  | fieldAddr t x f =>
    cases x with
    | tmp q =>
      have hq := hf q (by simp [tmpsIn, Op.operands])
      simp only [stepB, ev] at h0 ⊢
      rw [hq]
      cases hx : fr.get q .junk with
      | box b o =>
        rw [hx] at h0
        simp only [dgr] at h0 ⊢
        obtain ⟨ti, h1, h2⟩ := tiK_rel h0
        obtain ⟨z, u, h3, h4⟩ := fldK_rel h2
        refine h1 _ (h3 _ ?_)
        rw [← h4] at hk
        exact hk
      | elt X z cs dd l n o =>
        rw [hx] at h0
        simp only [dgr] at h0 ⊢
        obtain ⟨ti, h1, h2⟩ := tiK_rel h0
        obtain ⟨z, u, h3, h4⟩ := fldK_rel h2
        refine h1 _ (h3 _ ?_)
        rw [← h4] at hk
        exact hk
      | plc b z n o =>
        rw [hx] at h0
        simp only [dgr] at h0 ⊢
        obtain ⟨ti, h1, h2⟩ := tiK_rel h0
        obtain ⟨z, u, h3, h4⟩ := fldK_rel h2
        refine h1 _ (h3 _ ?_)
        rw [← h4] at hk
        exact hk
      | _ => rw [hx] at h0; exact h0.elim
    | _ => simp [easy] at he
  | load t x =>
    cases x with
    | tmp q =>
      have hq := hf q (by simp [tmpsIn, Op.operands])
      simp only [stepB, ev] at h0 ⊢
      rw [hq]
      suffices hs : (tiK E.ty t fun t => loadK t (fr.get q .junk) bx fun v' => v' = v) → (tiK E.ty t fun t => loadK t (dgr i j (fr.get q .junk)) (dgrB i j bx) fun v => k' v (dgrB i j bx)) by
        cases hql : qLoad E.bs (.tmp q) with
        | false =>
          rw [hql] at h0
          simp only at h0 ⊢
          cases hql2 : sLoad E.bs (.tmp q) with
          | false => rw [hql2] at h0; exact hs h0
          | true =>
            rw [hql2] at h0
            simp only at h0 ⊢
            cases hqb : isSB E.bs (fr.get q .junk) with
            | false => rw [hqb] at h0; exact h0.elim
            | true =>
              rw [hqb] at h0
              have : isSB E.bs (dgr i j (fr.get q .junk)) = true := by
                cases hx : fr.get q .junk with
                | box b o => rw [hx] at hqb; exact hqb
                | elt => rfl
                | _ => rw [hx] at hqb; cases hqb
              rw [this]
              exact hs h0
        | true =>
          rw [hql] at h0
          simp only at h0 ⊢
          cases hqb : isQB E.bs (fr.get q .junk) with
          | false => rw [hqb] at h0; exact h0.elim
          | true =>
            rw [hqb] at h0
            have : isQB E.bs (dgr i j (fr.get q .junk)) = true := by
              cases hx : fr.get q .junk with
              | box b o => rw [hx] at hqb; exact hqb
              | _ => rw [hx] at hqb; cases hqb
            rw [this]
            exact hs h0
      clear h0
      intro h0
      obtain ⟨ti, h1, h2⟩ := tiK_rel h0
      refine h1 _ ?_
      cases hx : fr.get q .junk with
      | box b o =>
        rw [hx] at h2
        simp only [dgr, loadK] at h2 ⊢
        rw [dgrB_get]
        cases hb : bx.get b none with
        | none => rw [hb] at h2; exact h2.elim
        | some cs =>
          rw [hb] at h2
          simp only [Option.map_some, dgrs_length] at h2 ⊢
          cases hpl : plain cs with
          | false => rw [hpl] at h2; exact h2.elim
          | true =>
          rw [hpl] at h2
          have hpl2 : plain (dgr.dgrs i j cs) = true := by
            match cs, hpl with
            | x :: xs, hpl =>
              have e1 : plain (x :: xs) = !(isMany [x]) := by cases x <;> rfl
              have e2 : plain (dgr.dgrs i j (x :: xs)) = !(isMany [dgr i j x]) := by
                show plain (dgr i j x :: dgr.dgrs i j xs) = _
                cases dgr i j x <;> rfl
              rw [e2]
              rw [e1] at hpl
              rcases (dgr_mapOk i j).many x with ⟨c, -⟩ | ⟨-, c⟩
              · rw [c] at hpl; cases hpl
              · rw [c]; rfl
          rw [hpl2]
          simp only at h2 ⊢
          cases hl : Nat.ble (o + ti.size) cs.length with
          | false => rw [hl] at h2; exact h2.elim
          | true =>
            rw [hl] at h2
            simp only [wholeK_eq] at h2 ⊢
            rw [← dgrs_drop, ← dgrs_take, whole_dgr, h2]; exact hk
      | plc b z n o =>
        rw [hx] at h2
        simp only [dgr, loadK] at h2 ⊢
        rw [dgrB_get]
        cases hb : bx.get b none with
        | none => rw [hb] at h2; exact h2.elim
        | some cs =>
          rw [hb] at h2
          simp only [Option.map_some] at h2 ⊢
          obtain ⟨T, sz, c, d, l, rfl, g2⟩ := manyK_elim h2
          show manyK [SV.many T sz c d l] _
          show (match Nat.beq z sz with
            | true => match Nat.ble (o + ti.size) sz with
              | true => match ownFree.ownFrees (takeN ti.size (dropN o (c (l.getD n.toNat d)))) with
                | true => (0 ≤ n ∧ n < (l.length : Int)) ∧ wholeK ti.agg (takeN ti.size (dropN o (c (l.getD n.toNat d)))) (fun v => k' v (dgrB i j bx))
                | false => False
              | false => False
            | false => False)
          cases hz : Nat.beq z sz with
          | false => rw [hz] at g2; exact g2.elim
          | true =>
          rw [hz] at g2
          simp only at g2 ⊢
          cases hl : Nat.ble (o + ti.size) sz with
          | false => rw [hl] at g2; exact g2.elim
          | true =>
          rw [hl] at g2
          simp only at g2 ⊢
          cases hfr : ownFree.ownFrees (takeN ti.size (dropN o (c (l.getD n.toNat d)))) with
          | false => rw [hfr] at g2; exact g2.elim
          | true =>
          rw [hfr] at g2
          simp only [wholeK_eq] at g2 ⊢
          have e : dgr i j v = v := by
            rw [← g2.2, ← whole_dgr, dgrs_free i j _ hfr]
          refine ⟨g2.1, ?_⟩
          rw [g2.2, ← e]; exact hk
      | elt X z cs dd l n o =>
        rw [hx] at h2
        simp only [dgr, loadK] at h2 ⊢
        cases hl : Nat.ble (o + ti.size) z with
        | false => rw [hl] at h2; exact h2.elim
        | true =>
          rw [hl] at h2
          simp only at h2 ⊢
          cases hfr : ownFree.ownFrees (takeN ti.size (dropN o (cs (l.getD n.toNat dd)))) with
          | false => rw [hfr] at h2; exact h2.elim
          | true =>
            rw [hfr] at h2
            simp only [wholeK_eq] at h2 ⊢
            have e : dgr i j v = v := by
              rw [← h2, ← whole_dgr, dgrs_free i j _ hfr]
            rw [h2, ← e]; exact hk
      | _ => rw [hx] at h2; exact h2.elim
    | _ => simp [easy] at he
  | _ => simp [easy] at he
theorem dgr_own (i j : Nat) (T : Type) (sz : Nat) (cs : T → List SV) (d : T) (l : List T) (id : Nat) : dgr i j (.own T sz cs d l id) = .own T sz cs d l id ∨ dgr i j (.own T sz cs d l id) = .row T sz cs d l := by
  simp only [dgr]
  cases Nat.beq id i with
  | true => exact .inr rfl
  | false => cases Nat.beq id j with
    | true => exact .inr rfl
    | false => exact .inl rfl
/-- .. and the other way about: what it comes to behind a row's growth comes from what it came to ahead of it -/
theorem easy_undgr {E : Env} {d : Nat} {op : Op} {fr fr' : Tr SV} {bx : Tr (Option (List SV))} {v : SV} {i j : Nat} (he : easy op = true) (hf : ∀ q ∈ tmpsIn op, fr'.get q .junk = dgr i j (fr.get q .junk))
    (h : ∀ k' : SV → Tr (Option (List SV)) → Prop, k' v (dgrB i j bx) → stepB E d op (ev ⟨fr', dgrB i j bx⟩) (dgrB i j bx) k') :
    ∃ u, dgr i j u = v ∧ ∀ k' : SV → Tr (Option (List SV)) → Prop, k' u bx → stepB E d op (ev ⟨fr, bx⟩) bx k' := by
  have h0 := h (fun v' b' => v' = v) rfl
  cases op with
  | move x =>
    cases x with
    | tmp q =>
      simp only [stepB, force_eq] at h0 ⊢
      have := hf q (by simp [tmpsIn, Op.operands])
      refine ⟨fr.get q .junk, ?_, fun k' hk => hk⟩
      rw [← this]; exact h0
    | _ => simp [easy] at he
  | fieldAddr t x f =>
    cases x with
    | tmp q =>
      have hq := hf q (by simp [tmpsIn, Op.operands])
      simp only [stepB, ev] at h0 ⊢
      rw [hq] at h0
      cases hx : fr.get q .junk with
      | box b o =>
        rw [hx] at h0
        simp only [dgr] at h0 ⊢
        obtain ⟨ti, h1, h2⟩ := tiK_rel h0
        obtain ⟨z, u, h3, h4⟩ := fldK_rel h2
        exact ⟨_, (show dgr i j (.box b (o + z)) = v from h4), fun k' hk => h1 _ (h3 _ hk)⟩
      | elt X z cs dd l n o =>
        rw [hx] at h0
        simp only [dgr] at h0 ⊢
        obtain ⟨ti, h1, h2⟩ := tiK_rel h0
        obtain ⟨z, u, h3, h4⟩ := fldK_rel h2
        exact ⟨_, (show dgr i j (.elt X _ cs dd l n (o + z)) = v from h4), fun k' hk => h1 _ (h3 _ hk)⟩
      | plc b z n o =>
        rw [hx] at h0
        simp only [dgr] at h0 ⊢
        obtain ⟨ti, h1, h2⟩ := tiK_rel h0
        obtain ⟨z, u, h3, h4⟩ := fldK_rel h2
        exact ⟨_, (show dgr i j (.plc b _ n (o + z)) = v from h4), fun k' hk => h1 _ (h3 _ hk)⟩
      | own X z cs dd l id =>
        rw [hx] at h0
        rcases dgr_own i j X z cs dd l id with e | e <;> rw [e] at h0 <;> exact h0.elim
      | _ => rw [hx] at h0; exact h0.elim
    | _ => simp [easy] at he
  | load t x =>
    cases x with
    | tmp q =>
      have hq := hf q (by simp [tmpsIn, Op.operands])
      simp only [stepB, ev] at h0 ⊢
      rw [hq] at h0
      suffices hs : (tiK E.ty t fun t => loadK t (dgr i j (fr.get q .junk)) (dgrB i j bx) fun v' => v' = v) → ∃ u, dgr i j u = v ∧ ∀ k' : SV → Tr (Option (List SV)) → Prop, k' u bx → tiK E.ty t fun t => loadK t (fr.get q .junk) bx fun v => k' v bx by
        cases hql : qLoad E.bs (.tmp q) with
        | false =>
          rw [hql] at h0
          simp only at h0 ⊢
          cases hql2 : sLoad E.bs (.tmp q) with
          | false => rw [hql2] at h0; exact hs h0
          | true =>
            rw [hql2] at h0
            simp only at h0 ⊢
            cases hqb : isSB E.bs (dgr i j (fr.get q .junk)) with
            | false => rw [hqb] at h0; exact h0.elim
            | true =>
              rw [hqb] at h0
              have : isSB E.bs (fr.get q .junk) = true := by
                cases hx : fr.get q .junk with
                | box b o => rw [hx] at hqb; exact hqb
                | elt => rfl
                | own X z cs dd l id => rw [hx] at hqb; rcases dgr_own i j X z cs dd l id with e | e <;> rw [e] at hqb <;> cases hqb
                | _ => rw [hx] at hqb; cases hqb
              rw [this]
              exact hs h0
        | true =>
          rw [hql] at h0
          simp only at h0 ⊢
          cases hqb : isQB E.bs (dgr i j (fr.get q .junk)) with
          | false => rw [hqb] at h0; exact h0.elim
          | true =>
            rw [hqb] at h0
            have : isQB E.bs (fr.get q .junk) = true := by
              cases hx : fr.get q .junk with
              | box b o => rw [hx] at hqb; exact hqb
              | own X z cs dd l id => rw [hx] at hqb; rcases dgr_own i j X z cs dd l id with e | e <;> rw [e] at hqb <;> cases hqb
              | _ => rw [hx] at hqb; cases hqb
            rw [this]
            exact hs h0
      clear h0
      intro h0
      obtain ⟨ti, h1, h2⟩ := tiK_rel h0
      suffices hs : ∃ u, dgr i j u = v ∧ ∀ k' : SV → Tr (Option (List SV)) → Prop, k' u bx → loadK ti (fr.get q .junk) bx fun v => k' v bx by
        obtain ⟨u, hu, hk⟩ := hs
        exact ⟨u, hu, fun k' h => h1 _ (hk k' h)⟩
      cases hx : fr.get q .junk with
      | box b o =>
        rw [hx] at h2
        simp only [dgr, loadK] at h2 ⊢
        rw [dgrB_get] at h2
        cases hb : bx.get b none with
        | none => rw [hb] at h2; exact h2.elim
        | some cs =>
          rw [hb] at h2
          simp only [Option.map_some, dgrs_length] at h2 ⊢
          have hpq : plain (dgr.dgrs i j cs) = plain cs := by
            match cs with
            | [] => rfl
            | x :: xs =>
              have e1 : plain (x :: xs) = !(isMany [x]) := by cases x <;> rfl
              have e2 : plain (dgr.dgrs i j (x :: xs)) = !(isMany [dgr i j x]) := by
                show plain (dgr i j x :: dgr.dgrs i j xs) = _
                cases dgr i j x <;> rfl
              rw [e1, e2]
              rcases (dgr_mapOk i j).many x with ⟨c, e⟩ | ⟨c, e⟩
              · rw [e]
              · rw [c, e]
          rw [hpq] at h2
          cases hpl : plain cs with
          | false => rw [hpl] at h2; exact h2.elim
          | true =>
          rw [hpl] at h2
          simp only at h2 ⊢
          cases hl : Nat.ble (o + ti.size) cs.length with
          | false => rw [hl] at h2; exact h2.elim
          | true =>
            rw [hl] at h2
            simp only [wholeK_eq] at h2 ⊢
            rw [← dgrs_drop, ← dgrs_take, whole_dgr] at h2
            exact ⟨_, h2, fun k' hk => hk⟩
      | plc b z n o =>
        rw [hx] at h2
        simp only [dgr, loadK] at h2 ⊢
        rw [dgrB_get] at h2
        cases hb : bx.get b none with
        | none => rw [hb] at h2; exact h2.elim
        | some cs =>
          rw [hb] at h2
          simp only [Option.map_some] at h2 ⊢
          obtain ⟨T, sz, c, d, l, hcs, g2⟩ := manyK_elim h2
          obtain rfl : cs = [.many T sz c d l] := by
            match cs, hcs with
            | [], hcs => simp [dgr.dgrs] at hcs
            | _ :: _ :: _, hcs => simp [dgr.dgrs] at hcs
            | [x], hcs =>
              simp only [dgr.dgrs, List.cons.injEq, and_true] at hcs
              rcases (dgr_mapOk i j).many x with ⟨e1, e2⟩ | ⟨e1, e2⟩
              · rw [e2] at hcs; rw [hcs]
              · rw [hcs] at e2; cases e2
          show ∃ u, dgr i j u = v ∧ ∀ k' : SV → Tr (Option (List SV)) → Prop, k' u bx → (match Nat.beq z sz with
            | true => match Nat.ble (o + ti.size) sz with
              | true => match ownFree.ownFrees (takeN ti.size (dropN o (c (l.getD n.toNat d)))) with
                | true => (0 ≤ n ∧ n < (l.length : Int)) ∧ wholeK ti.agg (takeN ti.size (dropN o (c (l.getD n.toNat d)))) (fun v => k' v bx)
                | false => False
              | false => False
            | false => False)
          cases hz : Nat.beq z sz with
          | false => rw [hz] at g2; exact g2.elim
          | true =>
          rw [hz] at g2
          simp only at g2 ⊢
          cases hl : Nat.ble (o + ti.size) sz with
          | false => rw [hl] at g2; exact g2.elim
          | true =>
          rw [hl] at g2
          simp only at g2 ⊢
          cases hfr : ownFree.ownFrees (takeN ti.size (dropN o (c (l.getD n.toNat d)))) with
          | false => rw [hfr] at g2; exact g2.elim
          | true =>
          rw [hfr] at g2
          simp only [wholeK_eq] at g2 ⊢
          refine ⟨_, ?_, fun k' hk => ⟨g2.1, hk⟩⟩
          rw [← whole_dgr, dgrs_free i j _ hfr]; exact g2.2
      | elt X z cs dd l n o =>
        rw [hx] at h2
        simp only [dgr, loadK] at h2 ⊢
        cases hl : Nat.ble (o + ti.size) z with
        | false => rw [hl] at h2; exact h2.elim
        | true =>
          rw [hl] at h2
          simp only at h2 ⊢
          cases hfr : ownFree.ownFrees (takeN ti.size (dropN o (cs (l.getD n.toNat dd)))) with
          | false => rw [hfr] at h2; exact h2.elim
          | true =>
            rw [hfr] at h2
            simp only [wholeK_eq] at h2 ⊢
            refine ⟨_, ?_, fun k' hk => hk⟩
            rw [← whole_dgr, dgrs_free i j _ hfr]; exact h2
      | own X z cs dd l id =>
        rw [hx] at h2
        rcases dgr_own i j X z cs dd l id with e | e <;> rw [e] at h2 <;> exact h2.elim
      | _ => rw [hx] at h2; exact h2.elim
    | _ => simp [easy] at he
  | _ => simp [easy] at he
theorem appX_inv {E : Env} {d : Nat} {t : Nat × Nat} {b z o n : Nat} {c : Option Nat} {y : SV} {s : ASt} {K : ASt → Prop} (h : appX E d t b z o n c y s K) :
    ∃ (id : Nat) (r : SV), K ⟨(dgrT id d s.fr).put d r, dgrB id d s.bx⟩ ∧ ∀ (s' : ASt) (K' : ASt → Prop), s'.bx = s.bx → K' ⟨(dgrT id d s'.fr).put d r, dgrB id d s'.bx⟩ → appX E d t b z o n c y s' K' := by
  unfold appX at h ⊢
  cases htu : Nat.beq t.1 t.2 with
  | false => rw [htu] at h; exact h.elim
  | true =>
  simp only [htu] at h ⊢
  obtain ⟨ti, h1, h2⟩ := tiK_rel h
  cases hs : ti.slice with
  | false => rw [hs] at h2; exact h2.elim
  | true =>
    rw [hs] at h2
    obtain ⟨ui, h3, h4⟩ := tiK_rel h2
    cases hb : Nat.beq ui.zero.length ui.size with
    | false => rw [hb] at h4; exact h4.elim
    | true =>
      rw [hb] at h4
      simp only at h4
      cases hp : Nat.ble 1 ui.size with
      | false => rw [hp] at h4; exact h4.elim
      | true =>
        rw [hp] at h4
        simp only at h4
        cases hm : Nat.ble 1 ui.bytes with
        | false => rw [hm] at h4; exact h4.elim
        | true =>
          rw [hm] at h4
          simp only at h4
          cases hz : Nat.beq z ui.size with
          | false => rw [hz] at h4; exact h4.elim
          | true =>
          rw [hz] at h4
          simp only at h4
          cases hg : s.bx.get b none with
          | none => rw [hg] at h4; exact h4.elim
          | some cs =>
          rw [hg] at h4
          simp only at h4
          obtain ⟨T, sz, cc, e, l, m1, m2⟩ := manyK_rel h4
          cases hz2 : Nat.beq z sz with
          | false => rw [hz2] at m2; exact m2.elim
          | true =>
          rw [hz2] at m2
          simp only [Tr.putK_eq] at m2
          rcases m2 with ⟨ys, g1, g3, g4⟩ | ⟨g1, g4⟩
          · refine ⟨d, _, g4, fun s' k' hbx hk' => h1 _ ?_⟩
            rw [hs]
            refine h3 _ ?_
            simp only [hb, hp, hm, hz, hbx, hg]
            refine m1 _ ?_
            simp only [hz2, Tr.putK_eq]
            exact .inl ⟨ys, g1, g3, by rw [hbx] at hk'; exact hk'⟩
          · refine ⟨d, _, g4, fun s' k' hbx hk' => h1 _ ?_⟩
            rw [hs]
            refine h3 _ ?_
            simp only [hb, hp, hm, hz, hbx, hg]
            refine m1 _ ?_
            simp only [hz2, Tr.putK_eq]
            exact .inr ⟨g1, by rw [hbx] at hk'; exact hk'⟩
/-- what an append comes to whose temporary is no row that may be written -/
theorem app_inv {o : Oper} {s s1 : ASt} (ha : isApp o.op ≠ none) (hv : vecD E.bs (dOf o.dst) = false) (hz : isFrz E.bs o = none) (h : StepR E o s s1) :
    ∃ (X Y : Operand) (ty : Nat × Nat) (d id : Nat) (r : SV), isApp o.op = some (X, Y, ty) ∧ o.dst = some d ∧ s1 = ⟨(dgrT id d s.fr).put d r, dgrB id d s.bx⟩ ∧
      ∀ s' : ASt, s'.bx = s.bx → ev s' X = ev s X → ev s' Y = ev s Y → StepR E o s' ⟨(dgrT id d s'.fr).put d r, dgrB id d s'.bx⟩ := by
  rcases h with ⟨hn, -⟩ | ⟨X, Y, ty, d, hap, hd, happ⟩ | ⟨hvv, -, hop⟩
  · exact absurd hn ha
  · obtain ⟨id, r, h3, h4⟩ := appK_inv (happ (fun t' => t' = s1) rfl)
    exact ⟨X, Y, ty, d, id, r, hap, hd, h3.symm, fun s' _ hX hY => .inr (.inl ⟨X, Y, ty, d, hap, hd, fun K hK => by rw [hX, hY]; exact h4 s' K hK⟩)⟩
  · have h0 := hop (fun t' => t' = s1) rfl
    unfold opK at h0
    cases hap : isApp o.op with
    | none => exact absurd hap ha
    | some q =>
      obtain ⟨X, Y, ty⟩ := q
      rw [hap] at h0
      cases hd : o.dst with
      | none => rw [hd] at h0; exact h0.elim
      | some d =>
        rw [hd] at h0 hv
        simp only [force_eq, dOf] at h0 hv
        rw [hv] at h0
        simp only at h0
        have reg : (∀ b z q n c, ev s X ≠ .arr b z q n c) → appK E d ty (ev s X) (ev s Y) s (fun t' => t' = s1) → ∃ (id : Nat) (r : SV), s1 = ⟨(dgrT id d s.fr).put d r, dgrB id d s.bx⟩ ∧
            ∀ s' : ASt, s'.bx = s.bx → ev s' X = ev s X → ev s' Y = ev s Y → StepR E o s' ⟨(dgrT id d s'.fr).put d r, dgrB id d s'.bx⟩ := by
          intro _ h
          obtain ⟨id, r, h3, h4⟩ := appK_inv h
          exact ⟨id, r, h3.symm, fun s' _ hX hY => .inr (.inl ⟨X, Y, ty, d, hap, hd, fun K hK => by rw [hX, hY]; exact h4 s' K hK⟩)⟩
        suffices hs : ∃ (id : Nat) (r : SV), s1 = ⟨(dgrT id d s.fr).put d r, dgrB id d s.bx⟩ ∧
            ∀ s' : ASt, s'.bx = s.bx → ev s' X = ev s X → ev s' Y = ev s Y → StepR E o s' ⟨(dgrT id d s'.fr).put d r, dgrB id d s'.bx⟩ by
          obtain ⟨id, r, h1, h2⟩ := hs
          exact ⟨X, Y, ty, d, id, r, rfl, rfl, h1, h2⟩
        cases hx : ev s X with
        | arr b z q n c =>
          rw [hx] at h0
          simp only at h0
          rw [hvv] at h0
          obtain ⟨id, r, h3, h4⟩ := appX_inv h0
          refine ⟨id, r, h3.symm, fun s' hbx hX hY => .inr (.inr ⟨hvv, .inl ha, fun K hK => ?_⟩)⟩
          unfold opK
          rw [hap, hd]
          simp only [force_eq]
          rw [hv, hX, hY]
          simp only
          rw [hvv]
          exact h4 s' K hbx hK
        | _ =>
          have g := reg (by rw [hx]; intros; simp) (by rw [hx]; rw [hx] at h0; exact h0)
          rw [hx] at g
          exact g
theorem allConst_ev {fr fr' : Tr SV} {bx bx' : Tr (Option (List SV))} : ∀ {l : List (Nat × Operand)}, allConst l = true → ∀ p ∈ l, ev ⟨fr, bx⟩ p.2 = ev ⟨fr', bx'⟩ p.2
  | (i, .const v) :: r, h, p, hp => by
    rcases List.mem_cons.1 hp with e | e
    · subst e; rfl
    · exact allConst_ev (l := r) h p e
  | (i, .tmp _) :: r, h, _, _ => by simp [allConst] at h
  | (i, .global _) :: r, h, _, _ => by simp [allConst] at h
  | (i, .func _) :: r, h, _, _ => by simp [allConst] at h
theorem ownOr_lit {bs : List Nat} {d : Nat} {T : Type} {sz : Nat} {cs : T → List SV} {e : T} {l : List T} {v : SV} (hm : memN bs (Nat.add 800000 d) = true) (h : ownOr bs d T sz cs e l fun v' => v' = v) : v = .row T sz cs e l := by
  unfold ownOr at h; rw [hm] at h; exact h.symm
theorem lit_row {E : Env} {d t len : Nat} {ρ : Operand → SV} {parts : List (Nat × Operand)} {v : SV} (hm : memN E.bs (Nat.add 800000 d) = true) (h : buildSliceK E d ρ t len parts fun v' => v' = v) (i j : Nat) : dgr i j v = v := by
  obtain ⟨ti, h1, h2⟩ := tiK_rel h
  cases hs : ti.slice with
  | false => rw [hs] at h2; exact h2.elim
  | true =>
    rw [hs] at h2
    simp only at h2
    cases hl0 : Nat.beq len 0 with
    | true =>
      rw [hl0] at h2
      obtain ⟨ui, h3, h4⟩ := tiK_rel h2
      cases hn : isNil parts with
      | false => rw [hn] at h4; exact h4.elim
      | true => rw [hn] at h4; have h4 : SV.e0 = v := h4; rw [← h4]; rfl
    | false =>
    rw [hl0] at h2
    obtain ⟨ui, h3, h4⟩ := tiK_rel h2
    cases hb : Nat.beq ui.zero.length ui.size with
    | false => rw [hb] at h4; exact h4.elim
    | true =>
      rw [hb] at h4
      simp only at h4
      cases hp : Nat.ble 1 (len * ui.size) with
      | false => rw [hp] at h4; exact h4.elim
      | true =>
        rw [hp] at h4
        simp only at h4
        cases hmm : Nat.ble (len * ui.size) 16777216 with
        | false => rw [hmm] at h4; exact h4.elim
        | true =>
          rw [hmm] at h4
          simp only at h4
          obtain ⟨y, h5, X, cs, e, l, h6, h7, h8, h9⟩ := fillK_rel (fun i k h => ⟨_, _, fun _ h => h, h⟩) h4
          rw [ownOr_lit hm h9]; rfl
/-- a literal of constants comes to the same anywhere -/
theorem lit_any {E : Env} {d : Nat} {op : Op} {fr : Tr SV} {bx : Tr (Option (List SV))} {v : SV} (hl : isLit E.bs d op = true) (h : ∀ k' : SV → Tr (Option (List SV)) → Prop, k' v bx → stepB E d op (ev ⟨fr, bx⟩) bx k') :
    (∀ i j, dgr i j v = v) ∧ ∀ (fr' : Tr SV) (bx' : Tr (Option (List SV))) (k' : SV → Tr (Option (List SV)) → Prop), k' v bx' → stepB E d op (ev ⟨fr', bx'⟩) bx' k' := by
  cases op with
  | buildSlice t len parts =>
    simp only [isLit, Bool.and_eq_true, Bool.not_eq_true'] at hl
    obtain ⟨⟨h1, h2⟩, h3⟩ := hl
    refine ⟨?_, fun fr' bx' k' hk => ?_⟩
    · have h0 := h (fun v' _ => v' = v) rfl
      simp only [stepB, h3] at h0
      exact lit_row h2 h0
    · have h0 := h (fun v' _ => k' v' bx') hk
      have e : ∀ x ∈ (Op.buildSlice t len parts).operands, ev ⟨fr, bx⟩ x = ev ⟨fr', bx'⟩ x := by
        intro x hx
        simp only [Op.operands] at hx
        obtain ⟨p, hp, rfl⟩ := List.mem_map.1 (List.mem_toArray.1 hx)
        exact allConst_ev h1 p hp
      rw [stepB_congr e] at h0
      simp only [stepB, h3] at h0 ⊢
      exact h0
  | _ => simp [isLit] at hl
theorem easyL_mem {o : Oper} (h : easyL E.bs o = true) : memW E.bs (dOf o.dst) o.op = false := by
  unfold easyL at h
  cases he : easy o.op with
  | true => cases ho : o.op <;> rw [ho] at he <;> first | rfl | (simp [easy] at he; done)
  | false =>
    rw [he, Bool.false_or] at h
    cases ho : o.op with
    | buildSlice t len parts =>
      rw [ho] at h
      simp only [isLit, Bool.and_eq_true, Bool.not_eq_true'] at h
      exact h.2
    | _ => rw [ho] at h; simp [isLit] at h
theorem easyL_dgr {E : Env} {o : Oper} {fr fr' : Tr SV} {bx : Tr (Option (List SV))} {v : SV} {i j : Nat} (he : easyL E.bs o = true) (hf : ∀ q ∈ tmpsIn o.op, fr'.get q .junk = dgr i j (fr.get q .junk))
    (h : ∀ k' : SV → Tr (Option (List SV)) → Prop, k' v bx → stepB E (dOf o.dst) o.op (ev ⟨fr, bx⟩) bx k') (k' : SV → Tr (Option (List SV)) → Prop) (hk : k' (dgr i j v) (dgrB i j bx)) :
    stepB E (dOf o.dst) o.op (ev ⟨fr', dgrB i j bx⟩) (dgrB i j bx) k' := by
  unfold easyL at he
  cases h1 : easy o.op with
  | true => exact easy_dgr h1 hf h k' hk
  | false =>
    rw [h1, Bool.false_or] at he
    obtain ⟨g1, g2⟩ := lit_any he h
    exact g2 _ _ _ (by rw [g1] at hk; exact hk)
theorem easyL_undgr {E : Env} {o : Oper} {fr fr' : Tr SV} {bx : Tr (Option (List SV))} {v : SV} {i j : Nat} (he : easyL E.bs o = true) (hf : ∀ q ∈ tmpsIn o.op, fr'.get q .junk = dgr i j (fr.get q .junk))
    (h : ∀ k' : SV → Tr (Option (List SV)) → Prop, k' v (dgrB i j bx) → stepB E (dOf o.dst) o.op (ev ⟨fr', dgrB i j bx⟩) (dgrB i j bx) k') :
    ∃ u, dgr i j u = v ∧ ∀ k' : SV → Tr (Option (List SV)) → Prop, k' u bx → stepB E (dOf o.dst) o.op (ev ⟨fr, bx⟩) bx k' := by
  unfold easyL at he
  cases h1 : easy o.op with
  | true => exact easy_undgr h1 hf h
  | false =>
    rw [h1, Bool.false_or] at he
    obtain ⟨g1, g2⟩ := lit_any he h
    exact ⟨v, g1 i j, fun k' hk => g2 _ _ _ hk⟩
theorem sameG_eq {i j : Option (Nat × Bool)} (h : sameG i j = true) : i = j := by
  match i, j, h with
  | none, none, _ => rfl
  | some (i, b), some (j, c), h =>
    simp only [sameG, Bool.and_eq_true, beq_iff_eq] at h
    rw [Nat.eq_of_beq_eq_true h.1, h.2]
theorem gIn_same (h : x.guard = y.guard) : gIn all x = gIn all y := by unfold gIn; rw [h]
/-- two steps under one guard -/
theorem swapG (hg : x.guard = y.guard) (hx : ∀ d, x.dst = some d → d ∉ gIn all x) (hy : ∀ d, y.dst = some d → d ∉ gIn all y) (hxy : ∀ d, x.dst = some d → y.dst ≠ some d)
    (kx : ∀ s s', StepR E x s s' → ∀ g ∈ gIn all x, ∀ b, s.fr.get g .junk = lit b → s'.fr.get g .junk = lit b)
    (ky : ∀ s s', StepR E y s s' → ∀ g ∈ gIn all y, ∀ b, s.fr.get g .junk = lit b → s'.fr.get g .junk = lit b)
    (hc : ∀ s s1 t, StepR E x s s1 → StepR E y s1 t → ∃ s2, StepR E y s s2 ∧ StepR E x s2 t)
    (h1 : Step1 E all x s s1) (h2 : Step1 E all y s1 t) : ∃ s2, Step1 E all y s s2 ∧ Step1 E all x s2 t := by
  have comm : ∀ l : Tr SV, setD y.dst (.val undef) (setD x.dst (.val undef) l) = setD x.dst (.val undef) (setD y.dst (.val undef) l) := fun l => by
    refine Tr.ext SV.junk (Tr.like_trans (Tr.like_trans (setD_like _ _ _) (setD_like _ _ _)) (Tr.like_symm (Tr.like_trans (setD_like _ _ _) (setD_like _ _ _)))) fun q hq => ?_
    simp only [at'_setD, setD_has]
    by_cases e1 : y.dst = some q ∧ l.has q = true
    · rw [if_pos e1]
      by_cases e2 : x.dst = some q ∧ l.has q = true
      · rw [if_pos e2]
      · rw [if_neg e2, if_pos e1]
    · rw [if_neg e1, if_neg e1]
  have nlit : ∀ b : Bool, ∀ x, lit b ≠ .val (.tuple x) := fun b x c => by cases b <;> cases c
  have nlit2 : ∀ b : Bool, ¬ (lit b = lit !b ∨ lit b = .val (.bool !b)) := fun b c => by cases b <;> rcases c with c | c <;> cases c
  have fx : ∀ {j b g}, x.guard = some (j, b) → gOf all j = some g → g ∈ gIn all x := fun h1 h2 => by rw [gIn_of h1 h2]; simp
  have fy : ∀ {j b g}, y.guard = some (j, b) → gOf all j = some g → g ∈ gIn all y := fun h1 h2 => by rw [gIn_of h1 h2]; simp
  have gl : ∀ (g : Nat) (v : SV) (l : Tr SV), v ≠ .junk → (l.put g v).get g .junk ≠ .junk → (l.put g v).get g .junk = (l.put g v).get g .junk := fun _ _ _ _ _ => rfl
  have pg : ∀ {s : ASt} {g : Nat} {b : Bool}, (s.fr.get g .junk = lit b ∨ s.fr.get g .junk = .val (.bool b)) → (s.fr.put g (lit b)).get g .junk = lit b := fun {s g b} h => by
    rw [Tr.get_put]
    by_cases hh : s.fr.has g = true
    · rw [if_pos ⟨rfl, hh⟩]
    · rw [if_neg (fun c => hh c.2)]
      have : s.fr.get g .junk = .junk := Tr.get_out _ _ _ (by simpa using hh)
      rw [this] at h
      cases b <;> rcases h with h | h <;> cases h
  have ug : ∀ {l : Tr SV} {d : Option Nat} {g : Nat} {v : SV}, d ≠ some g → (setD d v l).get g .junk = l.get g .junk := fun {l d g v} h => by
    rw [at'_setD, if_neg (fun c => h c.1)]
  cases h1 with
  | plain _ hgx h1 =>
    cases h2 with
    | run s' s0 j b g hgy => rw [← hg, hgx] at hgy; cases hgy
    | skip s0 j b g hgy => rw [← hg, hgx] at hgy; cases hgy
    | void j b g z hgy => rw [← hg, hgx] at hgy; cases hgy
    | plain _ hgy h2 =>
      obtain ⟨s2, a, b⟩ := hc _ _ _ h1 h2
      exact ⟨s2, .plain _ hgy a, .plain _ hgx b⟩
  | run _ s0 j b g hgx hj hr h1 =>
    obtain ⟨hr1, rfl⟩ := hr
    have k1 := kx _ _ h1 g (fx hgx hj) b (pg hr1)
    cases h2 with
    | plain _ hgy => rw [← hg, hgx] at hgy; cases hgy
    | skip s0 j' b' g' hgy hj' hr' =>
      rw [← hg, hgx] at hgy; cases hgy
      rw [hj] at hj'; cases hj'
      have h5 := hr'.1
      rw [k1] at h5
      exact absurd h5 (nlit2 b)
    | void j' b' g' z hgy hj' hr' =>
      rw [← hg, hgx] at hgy; cases hgy
      rw [hj] at hj'; cases hj'
      exact absurd (k1.symm.trans hr') (nlit b z)
    | run _ s0' j' b' g' hgy hj' hr' h2 =>
      have hgy0 := hgy
      rw [← hg, hgx] at hgy; cases hgy
      have hj0 := hj'
      rw [hj] at hj'; cases hj'
      obtain ⟨hr2, rfl⟩ := hr'
      rw [put_known k1] at h2
      obtain ⟨s2, a, c⟩ := hc _ _ _ h1 h2
      have k2 := ky _ _ a g (fy hgy0 hj0) b (pg hr1)
      exact ⟨s2, .run _ ⟨s.fr.put g (lit b), s.bx⟩ j b g hgy0 hj0 ⟨hr1, rfl⟩ a, .run _ s2 j b g hgx hj ⟨.inl k2, by rw [put_known k2]⟩ c⟩
  | skip s0 j b g hgx hj hr =>
    obtain ⟨hr1, rfl⟩ := hr
    have k1 : (setD x.dst (.val undef) (s.fr.put g (lit !b))).get g .junk = lit !b := by
      rw [ug (fun c => hx g c (fx hgx hj))]; exact pg hr1
    cases h2 with
    | plain _ hgy => rw [← hg, hgx] at hgy; cases hgy
    | run _ s0' j' b' g' hgy hj' hr' h2 =>
      rw [← hg, hgx] at hgy; cases hgy
      rw [hj] at hj'; cases hj'
      have := hr'.1
      rw [show (⟨setD x.dst (.val undef) (s.fr.put g (lit !b)), s.bx⟩ : ASt).fr = setD x.dst (.val undef) (s.fr.put g (lit !b)) from rfl, k1] at this
      exact absurd (by rwa [Bool.not_not]) (nlit2 (!b))
    | void j' b' g' z hgy hj' hr' =>
      rw [← hg, hgx] at hgy; cases hgy
      rw [hj] at hj'; cases hj'
      exact absurd (k1.symm.trans hr') (nlit _ z)
    | skip s0' j' b' g' hgy hj' hr' =>
      have hgy0 := hgy
      rw [← hg, hgx] at hgy; cases hgy
      have hj0 := hj'
      rw [hj] at hj'; cases hj'
      obtain ⟨hr2, rfl⟩ := hr'
      have k2 : (setD y.dst (.val undef) (s.fr.put g (lit !b))).get g .junk = lit !b := by
        rw [ug (fun c => hy g c (fy hgy0 hj0))]; exact pg hr1
      refine ⟨_, .skip ⟨s.fr.put g (lit !b), s.bx⟩ j b g hgy0 hj0 ⟨hr1, rfl⟩, ?_⟩
      have := Step1.skip (E := E) (all := all) (o := x) (s := ⟨setD y.dst (.val undef) (s.fr.put g (lit !b)), s.bx⟩) ⟨setD y.dst (.val undef) (s.fr.put g (lit !b)), s.bx⟩ j b g hgx hj ⟨.inl k2, by rw [put_known k2]⟩
      simp only [put_known k1]
      rw [comm]
      exact this
  | void j b g z hgx hj hr =>
    have k1 : (setD x.dst (.val undef) s.fr).get g .junk = .val (.tuple z) := by
      rw [ug (fun c => hx g c (fx hgx hj))]; exact hr
    cases h2 with
    | plain _ hgy => rw [← hg, hgx] at hgy; cases hgy
    | run _ s0' j' b' g' hgy hj' hr' h2 =>
      rw [← hg, hgx] at hgy; cases hgy
      rw [hj] at hj'; cases hj'
      have := hr'.1
      rw [show (⟨setD x.dst (.val undef) s.fr, s.bx⟩ : ASt).fr = setD x.dst (.val undef) s.fr from rfl, k1] at this
      rcases this with c | c
      · exact absurd c.symm (nlit b z)
      · cases c
    | skip s0' j' b' g' hgy hj' hr' =>
      rw [← hg, hgx] at hgy; cases hgy
      rw [hj] at hj'; cases hj'
      have := hr'.1
      rw [show (⟨setD x.dst (.val undef) s.fr, s.bx⟩ : ASt).fr = setD x.dst (.val undef) s.fr from rfl, k1] at this
      rcases this with c | c
      · exact absurd c.symm (nlit _ z)
      · cases c
    | void j' b' g' z' hgy hj' hr' =>
      have hgy0 := hgy
      rw [← hg, hgx] at hgy; cases hgy
      have hj0 := hj'
      rw [hj] at hj'; cases hj'
      have k2 : (setD y.dst (.val undef) s.fr).get g .junk = .val (.tuple z) := by
        rw [ug (fun c => hy g c (fy hgy0 hj0))]; exact hr
      refine ⟨_, .void j b g z hgy0 hj0 hr, ?_⟩
      have := Step1.void (E := E) (all := all) (o := x) (s := ⟨setD y.dst (.val undef) s.fr, s.bx⟩) j b g z hgx hj k2
      show Step1 E all x _ ⟨setD y.dst (.val undef) (setD x.dst (.val undef) s.fr), s.bx⟩
      rw [comm]
      exact this
/-- what is known at a temporary stays known -/
theorem easy_keep (he : easyL E.bs x = true) (hn : isApp x.op = none) (hz : isFrz E.bs x = none) (h : StepR E x s s1) {g : Nat} (hd : x.dst ≠ some g) (b : Bool) (hk : s.fr.get g .junk = lit b) : s1.fr.get g .junk = lit b := by
  rcases h with ⟨-, -, v, b', -, rfl⟩ | ⟨_, _, _, _, hb, -⟩ | hb
  case inr.inl => rw [hn] at hb; cases hb
  case inr.inr => exact hb.2.1.elim (fun q => (q hn).elim) (fun q => (q hz).elim)
  show (setD x.dst v s.fr).get g .junk = lit b
  rw [at'_setD, if_neg (fun c => hd c.1)]; exact hk
theorem app_keep (ha : isApp x.op ≠ none) (hv : vecD E.bs (dOf x.dst) = false) (hz : isFrz E.bs x = none) (h : StepR E x s s1) {g : Nat} (hd : x.dst ≠ some g) (b : Bool) (hk : s.fr.get g .junk = lit b) : s1.fr.get g .junk = lit b := by
  obtain ⟨X, Y, ty, d, id, o, hap, hdd, h3, h4⟩ := app_inv ha hv hz h
  subst h3
  show ((dgrT id d s.fr).put d o).get g .junk = lit b
  rw [Tr.get_put, if_neg (fun c => hd (by rw [hdd, c.1])), dgrT_get, hk]
  cases b <;> rfl
theorem swapAppR (hi : indep E.bs all x y = true) (hya : isApp y.op ≠ none) (h1 : StepR E x s s1) (h2 : StepR E y s1 t) : ∃ s2, StepR E y s s2 ∧ StepR E x s2 t := by
  obtain ⟨ix, iy, igx, igy, imx, imy, iaa, izx, izy⟩ := indep_spec hi
  obtain ⟨iax, iay⟩ : isApp x.op = none ∧ (isApp y.op = none ∨ (easyL E.bs x = true ∧ sameG x.guard y.guard = true ∧ vecD E.bs (dOf y.dst) = false)) := by
    rcases iaa with c | c
    · exact c
    · exact absurd c.2.1 hya
  obtain ⟨he, hsg, hvc⟩ : easyL E.bs x = true ∧ sameG x.guard y.guard = true ∧ vecD E.bs (dOf y.dst) = false := by
    rcases iay with c | c
    · exact absurd c hya
    · exact c
  have hmw : memW E.bs (dOf x.dst) x.op = false := easyL_mem he
  rcases h1 with ⟨hnx, -, v, b, hstep, rfl⟩ | ⟨_, _, _, _, hb, -⟩ | hb
  case inr.inl => rw [iax] at hb; cases hb
  case inr.inr => exact hb.2.1.elim (fun q => (q iax).elim) (fun q => (q izx).elim)
  obtain rfl := stepB_keeps hmw hstep
  obtain ⟨X, Y, ty, d, id, o, hap, hd, h3, h4⟩ := app_inv hya hvc izy h2
  obtain ⟨hxd, hxg⟩ := iy d hd
  have hev : ∀ z ∈ y.op.operands, ev ⟨setD x.dst v s.fr, s.bx⟩ z = ev s z := ev_same (f := setD x.dst v s.fr) (f' := s.fr) (bx := s.bx) (bx' := s.bx) fun q hq => by
    rw [at'_setD, if_neg (fun c => (ix q c.1).1 hq)]
  have hop := isApp_eq hap
  have hX : ev ⟨setD x.dst v s.fr, s.bx⟩ X = ev s X := hev X (by rw [hop]; simp [Op.operands, Call.operands])
  have hY : ev ⟨setD x.dst v s.fr, s.bx⟩ Y = ev s Y := hev Y (by rw [hop]; simp [Op.operands, Call.operands])
  refine ⟨⟨(dgrT id d s.fr).put d o, dgrB id d s.bx⟩, (h4 s rfl hX.symm hY.symm), (.inl ⟨hnx, izx, dgr id d v, dgrB id d s.bx, ?_, ?_⟩)⟩
  · intro k' hk'
    refine easyL_dgr (fr := s.fr) (fr' := (dgrT id d s.fr).put d o) he (fun q hq => ?_) hstep k' hk'
    rw [Tr.get_put, if_neg (fun (c : d = q ∧ (dgrT id d s.fr).has q = true) => hxd (c.1 ▸ hq)), dgrT_get]
  · rw [h3]
    congr 1
    refine Tr.ext SV.junk ?_ ?_
    · have l1 : ((dgrT id d (setD x.dst v s.fr)).put d o).like s.fr := Tr.like_trans (Tr.like_put _ _ _) (dgrT_like _ _ (setD_like _ _ _))
      have l2 : (setD x.dst (dgr id d v) ((dgrT id d s.fr).put d o)).like s.fr := Tr.like_trans (setD_like _ _ _) (Tr.like_trans (Tr.like_put _ _ _) (dgrT_like _ _ (Tr.like_refl _)))
      exact Tr.like_trans l1 (Tr.like_symm l2)
    · intro q hq
      have hq : s.fr.has q = true := by
        simp only [Tr.has_put, dgrT_has, setD_has] at hq; exact hq
      show ((dgrT id d (setD x.dst v s.fr)).put d o).get q .junk = (setD x.dst (dgr id d v) ((dgrT id d s.fr).put d o)).get q .junk
      have L : ((dgrT id d (setD x.dst v s.fr)).put d o).get q .junk = if d = q then o else dgr id d ((setD x.dst v s.fr).get q .junk) := by
        rw [Tr.get_put, dgrT_get]
        by_cases e : d = q
        · rw [if_pos ⟨e, by rw [dgrT_has, setD_has]; exact hq⟩, if_pos e]
        · rw [if_neg (fun c => e c.1), if_neg e]
      have R : (setD x.dst (dgr id d v) ((dgrT id d s.fr).put d o)).get q .junk = if x.dst = some q then dgr id d v else ((dgrT id d s.fr).put d o).get q .junk := by
        rw [at'_setD]
        by_cases e : x.dst = some q
        · rw [if_pos ⟨e, by rw [Tr.has_put, dgrT_has]; exact hq⟩, if_pos e]
        · rw [if_neg (fun c => e c.1), if_neg e]
      have R2 : ((dgrT id d s.fr).put d o).get q .junk = if d = q then o else dgr id d (s.fr.get q .junk) := by
        rw [Tr.get_put, dgrT_get]
        by_cases e : d = q
        · rw [if_pos ⟨e, by rw [dgrT_has]; exact hq⟩, if_pos e]
        · rw [if_neg (fun c => e c.1), if_neg e]
      have L2 : (setD x.dst v s.fr).get q .junk = if x.dst = some q then v else s.fr.get q .junk := by
        rw [at'_setD]
        by_cases e : x.dst = some q
        · rw [if_pos ⟨e, hq⟩, if_pos e]
        · rw [if_neg (fun c => e c.1), if_neg e]
      rw [L, R, R2, L2]
      by_cases e1 : d = q
      · rw [if_pos e1, if_neg (fun c => (ix q c).2.2 (e1 ▸ hd)), if_pos e1]
      · rw [if_neg e1, if_neg e1]
        by_cases e2 : x.dst = some q
        · rw [if_pos e2, if_pos e2]
        · rw [if_neg e2, if_neg e2]
theorem swapApp (hi : indep E.bs all x y = true) (hya : isApp y.op ≠ none) (h1 : Step1 E all x s s1) (h2 : Step1 E all y s1 t) : ∃ s2, Step1 E all y s s2 ∧ Step1 E all x s2 t := by
  obtain ⟨ix, iy, igx, igy, imx, imy, iaa, izx, izy⟩ := indep_spec hi
  obtain ⟨iax, he, hsg, hvc⟩ : isApp x.op = none ∧ easyL E.bs x = true ∧ sameG x.guard y.guard = true ∧ vecD E.bs (dOf y.dst) = false := by
    rcases iaa with c | c
    · exact ⟨c.1, c.2.resolve_left hya⟩
    · exact absurd c.2.1 hya
  have hg := sameG_eq hsg
  have hgi : gIn all x = gIn all y := gIn_same hg
  refine swapG hg (fun d hd => by rw [hgi]; exact (ix d hd).2.1) (fun d hd => by rw [← hgi]; exact (iy d hd).2) (fun d hd => (ix d hd).2.2)
    (fun s s' h g hgm b hk => easy_keep he iax izx h (fun c => (ix g c).2.1 (hgi ▸ hgm)) b hk) (fun s s' h g hgm b hk => app_keep hya hvc izy h (fun c => (iy g c).2 (hgi ▸ hgm)) b hk)
    (fun s s1 t a b => swapAppR hi hya a b) h1 h2
theorem swapApp2R (hi : indep E.bs all x y = true) (hxa : isApp x.op ≠ none) (h1 : StepR E x s s1) (h2 : StepR E y s1 t) : ∃ s2, StepR E y s s2 ∧ StepR E x s2 t := by
  obtain ⟨ix, iy, igx, igy, imx, imy, iaa, izx, izy⟩ := indep_spec hi
  obtain ⟨hya, he, hsg, hvc⟩ : isApp y.op = none ∧ easyL E.bs y = true ∧ sameG x.guard y.guard = true ∧ vecD E.bs (dOf x.dst) = false := by
    rcases iaa with c | c
    · exact absurd c.1 hxa
    · exact c.2
  have hmw : memW E.bs (dOf y.dst) y.op = false := easyL_mem he
  obtain ⟨X, Y, ty, d, id, o, hap, hd, h3, h4⟩ := app_inv hxa hvc izx h1
  subst h3
  rcases h2 with ⟨hny, -, v, b, hstep, rfl⟩ | ⟨_, _, _, _, hb, -⟩ | hb
  case inr.inl => rw [hya] at hb; cases hb
  case inr.inr => exact hb.2.1.elim (fun q => (q hya).elim) (fun q => (q izy).elim)
  obtain rfl := stepB_keeps hmw hstep
  obtain ⟨hyd, hyg, hyx⟩ := ix d hd
  obtain ⟨u, hu, hku⟩ := easyL_undgr (fr := s.fr) (fr' := (dgrT id d s.fr).put d o) he (fun q hq => by
    rw [Tr.get_put, if_neg (fun (c : d = q ∧ (dgrT id d s.fr).has q = true) => hyd (c.1 ▸ hq)), dgrT_get]) hstep
  have hop := isApp_eq hap
  have hev : ∀ z ∈ x.op.operands, ev ⟨setD y.dst u s.fr, s.bx⟩ z = ev s z := ev_same (f := setD y.dst u s.fr) (f' := s.fr) (bx := s.bx) (bx' := s.bx) fun q hq => by
    rw [at'_setD, if_neg (fun c => (iy q c.1).1 hq)]
  have hX : ev ⟨setD y.dst u s.fr, s.bx⟩ X = ev s X := hev X (by rw [hop]; simp [Op.operands, Call.operands])
  have hY : ev ⟨setD y.dst u s.fr, s.bx⟩ Y = ev s Y := hev Y (by rw [hop]; simp [Op.operands, Call.operands])
  have e : (dgrT id d (setD y.dst u s.fr)).put d o = setD y.dst v ((dgrT id d s.fr).put d o) := by
    refine Tr.ext SV.junk ?_ ?_
    · have l1 : ((dgrT id d (setD y.dst u s.fr)).put d o).like s.fr := Tr.like_trans (Tr.like_put _ _ _) (dgrT_like _ _ (setD_like _ _ _))
      have l2 : (setD y.dst v ((dgrT id d s.fr).put d o)).like s.fr := Tr.like_trans (setD_like _ _ _) (Tr.like_trans (Tr.like_put _ _ _) (dgrT_like _ _ (Tr.like_refl _)))
      exact Tr.like_trans l1 (Tr.like_symm l2)
    · intro q hq
      have hq : s.fr.has q = true := by
        simp only [Tr.has_put, dgrT_has, setD_has] at hq; exact hq
      have L : ((dgrT id d (setD y.dst u s.fr)).put d o).get q .junk = if d = q then o else dgr id d ((setD y.dst u s.fr).get q .junk) := by
        rw [Tr.get_put, dgrT_get]
        by_cases e : d = q
        · rw [if_pos ⟨e, by rw [dgrT_has, setD_has]; exact hq⟩, if_pos e]
        · rw [if_neg (fun c => e c.1), if_neg e]
      have R : (setD y.dst v ((dgrT id d s.fr).put d o)).get q .junk = if y.dst = some q then v else ((dgrT id d s.fr).put d o).get q .junk := by
        rw [at'_setD]
        by_cases e : y.dst = some q
        · rw [if_pos ⟨e, by rw [Tr.has_put, dgrT_has]; exact hq⟩, if_pos e]
        · rw [if_neg (fun c => e c.1), if_neg e]
      have R2 : ((dgrT id d s.fr).put d o).get q .junk = if d = q then o else dgr id d (s.fr.get q .junk) := by
        rw [Tr.get_put, dgrT_get]
        by_cases e : d = q
        · rw [if_pos ⟨e, by rw [dgrT_has]; exact hq⟩, if_pos e]
        · rw [if_neg (fun c => e c.1), if_neg e]
      have L2 : (setD y.dst u s.fr).get q .junk = if y.dst = some q then u else s.fr.get q .junk := by
        rw [at'_setD]
        by_cases e : y.dst = some q
        · rw [if_pos ⟨e, hq⟩, if_pos e]
        · rw [if_neg (fun c => e c.1), if_neg e]
      rw [L, R, R2, L2]
      by_cases e1 : d = q
      · rw [if_pos e1, if_neg (fun c => hyx (e1 ▸ c)), if_pos e1]
      · rw [if_neg e1, if_neg e1]
        by_cases e2 : y.dst = some q
        · rw [if_pos e2, if_pos e2, hu]
        · rw [if_neg e2, if_neg e2]
  refine ⟨⟨setD y.dst u s.fr, s.bx⟩, (.inl ⟨hny, izy, u, s.bx, hku, rfl⟩), ?_⟩
  have h5 := h4 ⟨setD y.dst u s.fr, s.bx⟩ rfl hX hY
  rw [show (⟨setD y.dst v ((dgrT id d s.fr).put d o), dgrB id d s.bx⟩ : ASt) = ⟨(dgrT id d (setD y.dst u s.fr)).put d o, dgrB id d s.bx⟩ by rw [e]]
  exact h5
theorem swapApp2 (hi : indep E.bs all x y = true) (hxa : isApp x.op ≠ none) (h1 : Step1 E all x s s1) (h2 : Step1 E all y s1 t) : ∃ s2, Step1 E all y s s2 ∧ Step1 E all x s2 t := by
  obtain ⟨ix, iy, igx, igy, imx, imy, iaa, izx, izy⟩ := indep_spec hi
  obtain ⟨hya, he, hsg, hvc⟩ : isApp y.op = none ∧ easyL E.bs y = true ∧ sameG x.guard y.guard = true ∧ vecD E.bs (dOf x.dst) = false := by
    rcases iaa with c | c
    · exact absurd c.1 hxa
    · exact c.2
  have hg := sameG_eq hsg
  have hgi : gIn all x = gIn all y := gIn_same hg
  refine swapG hg (fun d hd => by rw [hgi]; exact (ix d hd).2.1) (fun d hd => by rw [← hgi]; exact (iy d hd).2) (fun d hd => (ix d hd).2.2)
    (fun s s' h g hgm b hk => app_keep hxa hvc izx h (fun c => (ix g c).2.1 (hgi ▸ hgm)) b hk) (fun s s' h g hgm b hk => easy_keep he hya izy h (fun c => (iy g c).2 (hgi ▸ hgm)) b hk)
    (fun s s1 t a b => swapApp2R hi hxa a b) h1 h2
theorem swap (hi : indep E.bs all x y = true) (h1 : Step1 E all x s s1) (h2 : Step1 E all y s1 t) : ∃ s2, Step1 E all y s s2 ∧ Step1 E all x s2 t := by
  by_cases hya : isApp y.op = none
  case neg => exact swapApp hi hya h1 h2
  by_cases hxa : isApp x.op = none
  case neg => exact swapApp2 hi hxa h1 h2
  obtain ⟨ix, iy, igx, igy, imx, imy, -, izx, izy⟩ := indep_spec hi
  have iax := hxa
  have iay := hya
  obtain ⟨rx, vx, bx, rfl, hrx, hx⟩ := h1.to2 iax izx
  obtain ⟨ry, vy, b, rfl, hry, hy⟩ := h2.to2 iay izy
  simp only at hry hy
  -- what y looks at is the same at s
  have off : ∀ j, j ∉ gIn all x → x.dst ≠ some j → (setD x.dst vx (refine1 rx s.fr)).get j .junk = s.fr.get j .junk := by
    intro j h3 h4
    rw [at'_setD, if_neg (fun c => h4 c.1), at'_refine1]
    cases hr : rx with
    | none => rfl
    | some r =>
      obtain ⟨g, c⟩ := r
      have := (hrx g c hr).1
      have hne : ¬ (g = j ∧ s.fr.has j = true) := fun c => h3 (c.1 ▸ this)
      simp only
      rw [if_neg hne]
  have gval : ∀ g c, g ∈ gIn all y → ((setD x.dst vx (refine1 rx s.fr)).get g .junk = lit c ∨ (setD x.dst vx (refine1 rx s.fr)).get g .junk = .val (.bool c)) →
      (s.fr.get g .junk = lit c ∨ s.fr.get g .junk = .val (.bool c)) := by
    intro g c hg h
    rw [at'_setD, if_neg (fun e => (ix g e.1).2.1 hg), at'_refine1] at h
    cases hr : rx with
    | none => rw [hr] at h; exact h
    | some r =>
      obtain ⟨g', c'⟩ := r
      rw [hr] at h
      simp only at h
      by_cases e : g' = g ∧ s.fr.has g = true
      · rw [if_pos e] at h
        obtain ⟨rfl, -⟩ := e
        have : c' = c := by cases c <;> cases c' <;> simp [lit] at h <;> rfl
        subst this
        exact (hrx _ _ hr).2
      · rw [if_neg e] at h; exact h
  have memB : memW E.bs (dOf x.dst) x.op = false → bx = s.bx := by
    intro hm
    rcases hx with ⟨-, h, -⟩ | ⟨h, -⟩
    · exact h
    · exact stepB_keeps hm h
  have memB' : memW E.bs (dOf y.dst) y.op = false → b = bx := by
    intro hm
    rcases hy with ⟨-, h, -⟩ | ⟨h, -⟩
    · exact h
    · exact stepB_keeps hm h
  -- the boxes in between
  have hin : ∀ (r : Option (Nat × Bool)) (f f' : Tr SV), (∀ t ∈ tmpsIn y.op, f.get t .junk = f'.get t .junk) → (∀ t, f.has t = f'.has t) → ∀ t ∈ tmpsIn y.op, (refine1 r f).get t .junk = (refine1 r f').get t .junk := by
    intro r f f' h hl t ht
    rw [at'_refine1, at'_refine1]
    cases r with
    | none => exact h t ht
    | some r => obtain ⟨g, c⟩ := r; simp only [hl]; split
                · rfl
                · exact h t ht
  have hinx : ∀ (r : Option (Nat × Bool)) (f f' : Tr SV), (∀ t ∈ tmpsIn x.op, f.get t .junk = f'.get t .junk) → (∀ t, f.has t = f'.has t) → ∀ t ∈ tmpsIn x.op, (refine1 r f).get t .junk = (refine1 r f').get t .junk := by
    intro r f f' h hl t ht
    rw [at'_refine1, at'_refine1]
    cases r with
    | none => exact h t ht
    | some r => obtain ⟨g, c⟩ := r; simp only [hl]; split
                · rfl
                · exact h t ht
  let bm : Tr (Option (List SV)) := if memW E.bs (dOf y.dst) y.op then b else s.bx
  let s2 : ASt := ⟨setD y.dst vy (refine1 ry s.fr), bm⟩
  have hbm : memW E.bs (dOf y.dst) y.op = false → bm = s.bx := fun h => by simp [bm, h]
  have hbm' : memW E.bs (dOf y.dst) y.op = true → bm = b := fun h => by simp [bm, h]
  have hcase : memW E.bs (dOf x.dst) x.op = false ∨ memW E.bs (dOf y.dst) y.op = false := by
    cases hm : memW E.bs (dOf x.dst) x.op with
    | false => exact .inl rfl
    | true =>
      rcases imx hm with c | c
      · exact .inr c.2
      · refine .inr ?_
        cases hy : y.op <;> rw [hy] at c <;> first | rfl | (simp [qp, isQL, isSL] at c; done)
  refine ⟨s2, Step2.to1 iay izy ⟨ry, vy, bm, rfl, fun g c e => ⟨(hry g c e).1, gval g c (hry g c e).1 (hry g c e).2⟩, ?_⟩, ?_⟩
  · rcases hy with ⟨hv, hb, j, c, g, hg, hj, h⟩ | ⟨h, hg⟩
    · refine .inl ⟨hv, ?_, j, c, g, hg, hj, ?_⟩
      · cases hm : memW E.bs (dOf y.dst) y.op with
        | false => exact hbm hm
        | true =>
          rw [hbm' hm, hb]
          exact memB (imy hm).2
      · rcases h with h | ⟨h, z, hz⟩
        · exact .inl h
        · refine .inr ⟨h, z, ?_⟩
          have hgy : g ∈ gIn all y := by rw [gIn_of hg hj]; simp
          rw [at'_setD, if_neg (fun e => (ix g e.1).2.1 hgy), at'_refine1] at hz
          cases hr : rx with
          | none => rw [hr] at hz; exact hz
          | some r =>
            obtain ⟨g', c'⟩ := r
            rw [hr] at hz
            simp only at hz
            by_cases e : g' = g ∧ s.fr.has g = true
            · rw [if_pos e] at hz; cases c' <;> simp [lit] at hz
            · rw [if_neg e] at hz; exact hz
    · refine .inr ⟨?_, hg⟩
      have hops : ∀ z ∈ y.op.operands, ev ⟨refine1 ry s.fr, s.bx⟩ z = ev ⟨refine1 ry (setD x.dst vx (refine1 rx s.fr)), bx⟩ z :=
        ev_same (hin ry _ _ (fun t ht => (off t (fun c => igx t c ht) (fun c => (ix t c).1 ht)).symm) (fun t => by rw [setD_has, refine1_has]))
      intro k' hk'
      rw [stepB_congr hops]
      cases hm : memW E.bs (dOf y.dst) y.op with
      | true =>
        rw [hbm' hm] at hk'
        have e := memB (imy hm).2
        rw [← e]
        exact h k' hk'
      | false =>
        rw [hbm hm] at hk'
        cases hmx : memW E.bs (dOf x.dst) x.op with
        | false =>
          have e := memB hmx
          have e2 := memB' hm
          have := h k' (by rw [e2, e]; exact hk')
          rw [e] at this ⊢
          exact this
        | true =>
          rcases imx hmx with c | c1
          · exact (stepB_free c.1 hm h).2 s.bx k' hk'
          · have e2 := memB' hm
            rw [e2] at h
            rcases hx with ⟨-, hb, -⟩ | ⟨hx, -⟩
            · rw [hb] at h; exact h k' hk'
            · exact pair_quiet c1 hx (.inl fun q => ⟨rfl, rfl⟩) h k' hk'
  · refine Step2.to1 iax izx ⟨rx, vx, b, ?_, ?_, ?_⟩
    · congr 1
      refine Tr.ext SV.junk ?_ ?_
      · exact Tr.like_trans (setD_like _ _ _) (Tr.like_trans (refine1_like _ _) (Tr.like_trans (setD_like _ _ _) (Tr.like_trans (refine1_like _ _)
          (Tr.like_symm (Tr.like_trans (setD_like _ _ _) (Tr.like_trans (refine1_like _ _) (Tr.like_trans (setD_like _ _ _) (refine1_like _ _))))))))
      · intro j hj
        simp only [setD_has, refine1_has] at hj
        have sd : ∀ (d : Option Nat) (v : SV) (l : Tr SV), l.has j = true → (setD d v l).get j .junk = if d = some j then v else l.get j .junk := by
          intro d v l hl
          rw [at'_setD]
          by_cases e : d = some j
          · rw [if_pos ⟨e, hl⟩, if_pos e]
          · rw [if_neg (fun c => e c.1), if_neg e]
        have rf : ∀ (g : Nat) (c : Bool) (l : Tr SV), l.has j = true → (refine1 (some (g, c)) l).get j .junk = if g = j then lit c else l.get j .junk := by
          intro g c l hl
          rw [at'_refine1]
          simp only
          by_cases e : g = j
          · rw [if_pos ⟨e, hl⟩, if_pos e]
          · rw [if_neg (fun c => e c.1), if_neg e]
        have key : ∀ (dx dy : Option Nat) (rx ry : Option (Nat × Bool)), (dy = some j → dx ≠ some j ∧ ∀ g c, rx = some (g, c) → g ≠ j) → (dx = some j → ∀ g c, ry = some (g, c) → g ≠ j) →
            (∀ c c', rx = some (j, c') → ry = some (j, c) → c = c') →
            (setD dy vy (refine1 ry (setD dx vx (refine1 rx s.fr)))).get j .junk = (setD dx vx (refine1 rx (setD dy vy (refine1 ry s.fr)))).get j .junk := by
          intro dx dy rx ry hA hB hC
          rw [sd _ _ _ (by simp only [setD_has, refine1_has]; exact hj), sd _ _ _ (by simp only [setD_has, refine1_has]; exact hj)]
          cases rx with
          | none =>
            cases ry with
            | none =>
              show (if dy = some j then vy else (setD dx vx s.fr).get j .junk) = (if dx = some j then vx else (setD dy vy s.fr).get j .junk)
              rw [sd _ _ _ hj, sd _ _ _ hj]
              by_cases e1 : dy = some j
              · simp only [if_pos e1, if_neg (hA e1).1]
              · simp only [if_neg e1]
            | some r =>
              obtain ⟨g, c⟩ := r
              show (if dy = some j then vy else (refine1 (some (g, c)) (setD dx vx s.fr)).get j .junk) = (if dx = some j then vx else (setD dy vy (refine1 (some (g, c)) s.fr)).get j .junk)
              rw [rf _ _ _ (by rw [setD_has]; exact hj), sd _ _ _ hj, sd _ _ _ (by rw [refine1_has]; exact hj), rf _ _ _ hj]
              by_cases e1 : dy = some j
              · simp only [if_pos e1, if_neg (hA e1).1]
              · simp only [if_neg e1]
                by_cases e2 : dx = some j
                · simp only [if_pos e2, if_neg (hB e2 g c rfl)]
                · simp only [if_neg e2]
          | some r' =>
            obtain ⟨g', c'⟩ := r'
            cases ry with
            | none =>
              show (if dy = some j then vy else (setD dx vx (refine1 (some (g', c')) s.fr)).get j .junk) = (if dx = some j then vx else (refine1 (some (g', c')) (setD dy vy s.fr)).get j .junk)
              rw [rf _ _ _ (by rw [setD_has]; exact hj), sd _ _ _ hj, sd _ _ _ (by rw [refine1_has]; exact hj), rf _ _ _ hj]
              by_cases e1 : dy = some j
              · simp only [if_pos e1, if_neg (hA e1).1, if_neg ((hA e1).2 g' c' rfl)]
              · simp only [if_neg e1]
            | some r =>
              obtain ⟨g, c⟩ := r
              rw [rf _ _ _ (by simp only [setD_has, refine1_has]; exact hj), rf _ _ _ (by simp only [setD_has, refine1_has]; exact hj),
                sd _ _ _ (by simp only [refine1_has]; exact hj), sd _ _ _ (by simp only [refine1_has]; exact hj), rf _ _ _ hj, rf _ _ _ hj]
              by_cases e1 : dy = some j
              · simp only [if_pos e1, if_neg (hA e1).1, if_neg ((hA e1).2 g' c' rfl)]
              · simp only [if_neg e1]
                by_cases e2 : dx = some j
                · simp only [if_pos e2, if_neg (hB e2 g c rfl)]
                · simp only [if_neg e2]
                  by_cases e3 : g = j
                  · simp only [if_pos e3]
                    by_cases e4 : g' = j
                    · simp only [if_pos e4]
                      rw [hC c c' (by rw [e4]) (by rw [e3])]
                    · simp only [if_neg e4]
                  · simp only [if_neg e3]
        refine key x.dst y.dst rx ry (fun ey => ⟨fun ex => (ix j ex).2.2 ey, fun g c hr e => (iy j ey).2 (e ▸ (hrx g c hr).1)⟩) (fun ex g c hr e => (ix j ex).2.1 (e ▸ (hry g c hr).1)) ?_
        intro c c' hr' hr
        have h3 := (hry _ _ hr).2
        have hgy := (hry _ _ hr).1
        rw [at'_setD, if_neg (fun e => (ix j e.1).2.1 hgy), at'_refine1, hr'] at h3
        simp only at h3
        rw [if_pos ⟨trivial, hj⟩] at h3
        cases c <;> cases c' <;> simp [lit] at h3 <;> rfl
    · intro g c hr
      refine ⟨(hrx g c hr).1, ?_⟩
      have h3 := (hrx g c hr)
      simp only [s2]
      rw [at'_setD, if_neg (fun e => (iy g e.1).2 h3.1), at'_refine1]
      cases hr' : ry with
      | none => exact h3.2
      | some r =>
        obtain ⟨g', c'⟩ := r
        simp only
        by_cases e : g' = g ∧ s.fr.has g = true
        · rw [if_pos e]
          obtain ⟨rfl, -⟩ := e
          have h4 := gval _ _ (hry _ _ hr').1 (hry _ _ hr').2
          rcases h3.2 with a1 | a1 <;> rcases h4 with a2 | a2 <;> rw [a1] at a2 <;> cases c <;> cases c' <;> simp [lit] at a2 ⊢
        · rw [if_neg e]; exact h3.2
    · rcases hx with ⟨hv, hb, j, c, g, hg, hj, h⟩ | ⟨h, hg⟩
      · refine .inl ⟨hv, ?_, j, c, g, hg, hj, ?_⟩
        · show b = bm
          cases hm : memW E.bs (dOf y.dst) y.op with
          | true => exact (hbm' hm).symm
          | false => rw [hbm hm, memB' hm]; exact hb
        · rcases h with h | ⟨h, z, hz⟩
          · exact .inl h
          · refine .inr ⟨h, z, ?_⟩
            have hgx : g ∈ gIn all x := by rw [gIn_of hg hj]; simp
            simp only [s2]
            rw [at'_setD, if_neg (fun e => (iy g e.1).2 hgx), at'_refine1]
            cases hr : ry with
            | none => exact hz
            | some r =>
              obtain ⟨g', c'⟩ := r
              simp only
              by_cases e : g' = g ∧ s.fr.has g = true
              · obtain ⟨rfl, -⟩ := e
                have h4 := gval _ _ (hry _ _ hr).1 (hry _ _ hr).2
                rcases h4 with h4 | h4 <;> rw [hz] at h4 <;> cases c' <;> simp [lit] at h4
              · rw [if_neg e]; exact hz
      · refine .inr ⟨?_, hg⟩
        have hops : ∀ z ∈ x.op.operands, ev ⟨refine1 rx (setD y.dst vy (refine1 ry s.fr)), bm⟩ z = ev ⟨refine1 rx s.fr, s.bx⟩ z := by
          refine ev_same (hinx rx _ _ (fun t ht => ?_) (fun t => by rw [setD_has, refine1_has]))
          rw [at'_setD, if_neg (fun e => (iy t e.1).1 ht), at'_refine1]
          cases hr : ry with
          | none => rfl
          | some r =>
            obtain ⟨g, c⟩ := r
            have hne : ¬ (g = t ∧ s.fr.has t = true) := fun e => igy g (hry g c hr).1 (e.1 ▸ ht)
            simp only
            rw [if_neg hne]
        intro k' hk'
        show stepB E (dOf x.dst) x.op (ev ⟨refine1 rx (setD y.dst vy (refine1 ry s.fr)), bm⟩) bm k'
        rw [stepB_congr hops]
        cases hm : memW E.bs (dOf y.dst) y.op with
        | false =>
          rw [hbm hm]
          rw [memB' hm] at hk'
          exact h k' hk'
        | true =>
          rw [hbm' hm]
          cases hR : memR x.op with
          | false => exact (stepB_free hR (imy hm).2 h).2 b k' hk'
          | true =>
            have e := memB (imy hm).2
            rcases (imy hm).1 with c | hA | c1
            · rw [hR] at c; cases c
            rotate_left
            · rw [e] at h
              rcases hy with ⟨-, hb, -⟩ | ⟨hy, -⟩
              · rw [hb, e] at hk' ⊢; exact h k' hk'
              · exact pair_quiet c1 hy (.inr fun q => ⟨rfl, by rw [e]⟩) h k' hk'
            have hle : ∀ id cs, s.bx.get id none = some cs → b.get id none = some cs := by
              rcases hy with ⟨-, hb, -⟩ | ⟨hy, -⟩
              · rw [hb, e]; exact fun _ _ h => h
              · rw [← e]; exact stepB_grows hA hy
            rw [e] at h
            exact stepB_mono hR (imy hm).2 hle h k' hk'

/-! ### 2. A step moved to the front -/
theorem Run.front : ∀ {A : List Oper} {B : List Oper} {s t : ASt}, (∀ z ∈ A, indep E.bs all z x = true) → Run E all (A ++ x :: B) s t → ∃ s1, Step1 E all x s s1 ∧ Run E all (A ++ B) s1 t
  | [], B, s, t, _, h => by
    cases h with
    | cons _ _ _ s' _ h1 h2 => exact ⟨s', h1, h2⟩
  | z :: A, B, s, t, hi, h => by
    cases h with
    | cons _ _ _ s' _ h1 h2 =>
      obtain ⟨s2, h3, h4⟩ := Run.front (fun u hu => hi u (List.mem_cons_of_mem _ hu)) h2
      obtain ⟨s3, h5, h6⟩ := swap (hi z List.mem_cons_self) h1 h3
      exact ⟨s3, h5, .cons _ _ _ s2 _ h6 h4⟩
end

/-! ### 3. What the order's look says -/
theorem maskOf_bit (B : List Nat) (j : Nat) : ∀ (l : List Nat) (s : Nat), (l.foldl (fun s p => s ||| (2 ^ p ||| B.getD p 0)) s).testBit j = true →
    s.testBit j = true ∨ ∃ p ∈ l, p = j ∨ (B.getD p 0).testBit j = true
  | [], s, h => .inl h
  | p :: l, s, h => by
    rcases maskOf_bit B j l _ h with h | ⟨q, hq, h⟩
    · rw [Nat.testBit_or, Nat.testBit_or] at h
      simp only [Bool.or_eq_true] at h
      rcases h with h | h | h
      · exact .inl h
      · rw [Nat.testBit_two_pow] at h
        exact .inr ⟨p, List.mem_cons_self, .inl (by simpa using h)⟩
      · exact .inr ⟨p, List.mem_cons_self, .inr h⟩
    · exact .inr ⟨q, List.mem_cons_of_mem _ hq, h⟩
theorem orderOk_at {bs : List Nat} {ops : List Oper} {B : List Nat} (h : orderOkB bs ops B = true) {i : Nat} {o : Oper} (ho : ops[i]? = some o) :
    (∀ p ∈ preds o, p < i) ∧ B.getD i 0 = maskOf B o ∧ ∀ j x, j < i → ops[j]? = some x → (B.getD i 0).testBit j = true ∨ indep bs ops x o = true := by
  have hi : i < ops.length := (List.getElem?_eq_some_iff.1 ho).1
  have := List.all_eq_true.1 h i (by simpa using hi)
  rw [ho] at this
  simp only [Bool.and_eq_true] at this
  obtain ⟨⟨h1, h2⟩, h3⟩ := this
  refine ⟨fun p hp => ?_, by simpa using h2, fun j x hj hx => ?_⟩
  · have := List.all_eq_true.1 h1 p hp
    simpa [Nat.blt_eq] using this
  · have := List.all_eq_true.1 h3 j (by simpa using hj)
    rw [hx] at this
    simpa using this
/-- with all that an operation waits for, all lies behind that these wait for -/
theorem bits_listed {bs : List Nat} {ops : List Oper} {B : List Nat} (h : orderOkB bs ops B = true) (L : Nat → Bool) (hcl : ∀ i o, ops[i]? = some o → L i = true → ∀ p ∈ preds o, L p = true) :
    ∀ (i : Nat) (o : Oper), ops[i]? = some o → (∀ p ∈ preds o, L p = true) → ∀ j, (B.getD i 0).testBit j = true → L j = true := by
  intro i
  induction i using Nat.strongRecOn with
  | _ i ih =>
    intro o ho hp j hj
    obtain ⟨h1, h2, -⟩ := orderOk_at h ho
    rw [h2] at hj
    rcases maskOf_bit B j _ _ hj with hj | ⟨p, hpm, hj⟩
    · simp at hj
    · rcases hj with rfl | hj
      · exact hp _ hpm
      · have hlt := h1 p hpm
        have hi : i < ops.length := (List.getElem?_eq_some_iff.1 ho).1
        have hpo : ops[p]? = some ops[p] := List.getElem?_eq_getElem (by omega)
        exact ih p hlt _ hpo (hcl p _ hpo (hp p hpm)) j hj

/-! ### 4. The region -/
section
variable {P : Program} {E : Env} {M : BM} {w0 : World} {H0 : HM} {ops : Array Oper} {Q : Exit → Act → World → Prop} [GlOk E H0 w0]

/-- the operations that are still to come, in the text's order -/
def rem (ops : Array Oper) (l : Array Bool) : List Nat := (List.range ops.size).filter fun i => !l.getD i true
def opsAt (ops : Array Oper) (is : List Nat) : List Oper := is.filterMap fun i => ops[i]?
theorem binds_preds {o : Oper} {l : Array Bool} (h : (o.after.all fun e => !Region.binds .any e || l.getD e.on false) = true) : ∀ p ∈ preds o, l.getD p false = true := by
  intro p hp
  unfold preds at hp
  rw [List.mem_filterMap] at hp
  obtain ⟨e, he, hp⟩ := hp
  rw [Array.all_eq_true'] at h
  have := h e (by simpa using he)
  cases hb : Region.binds .any e with
  | false => rw [hb] at hp; simp at hp
  | true =>
    rw [hb] at hp this
    simp only [if_true, Option.some.injEq] at hp
    subst hp
    simpa using this
theorem preds_binds {o : Oper} {l : Array Bool} (h : ∀ p ∈ preds o, l.getD p false = true) : (o.after.all fun e => !Region.binds .any e || l.getD e.on false) = true := by
  rw [Array.all_eq_true']
  intro e he
  cases hb : Region.binds .any e with
  | false => simp
  | true =>
    have := h e.on (by
      unfold preds
      rw [List.mem_filterMap]
      exact ⟨e, by simpa using he, by simp [hb]⟩)
    simpa using this
theorem ready_iff {l : Array Bool} {i : Nat} : i ∈ Region.ready .any ops l ↔ i < ops.size ∧ l.getD i true = false ∧ ∃ o, ops[i]? = some o ∧ ∀ p ∈ preds o, l.getD p false = true := by
  unfold Region.ready
  rw [List.mem_filter]
  simp only [List.mem_range, Bool.and_eq_true, Bool.not_eq_true']
  constructor
  · rintro ⟨h1, h2, h3⟩
    refine ⟨h1, h2, ?_⟩
    have ho : ops[i]? = some ops[i] := Array.getElem?_eq_getElem h1
    rw [ho] at h3
    exact ⟨ops[i], ho, binds_preds h3⟩
  · rintro ⟨h1, h2, o, ho, h3⟩
    refine ⟨h1, h2, ?_⟩
    rw [ho]
    exact preds_binds h3

theorem wpAny_of (hE : EnvOk P E) {B : List Nat} (hok : orderOkB E.bs ops.toList B = true) {t : ASt} (hq : ∀ a' w', Rel M w0 H0 t a' w' → Q .normal a' w') :
    ∀ (n : Nat) (l : Array Bool) (s : ASt) (a : Act) (w : World), l.size = ops.size → (rem ops l).length = n →
      (∀ i o, ops[i]? = some o → l.getD i false = true → ∀ p ∈ preds o, l.getD p false = true) →
      Run E ops.toList (opsAt ops (rem ops l)) s t → Rel M w0 H0 s a w → wpAny P .any ops Q n l a w := by
  intro n
  have same : ∀ (l : Array Bool) (i : Nat), l.size = ops.size → i < ops.size → l.getD i true = l.getD i false := by
    intro l i h1 h2
    simp [Array.getD, show i < l.size by omega]
  have nil : ∀ (l : Array Bool) (s : ASt) (a : Act) (w : World), l.size = ops.size → (rem ops l) = [] → Run E ops.toList (opsAt ops (rem ops l)) s t → Rel M w0 H0 s a w → Q .normal a w := by
    intro l s a w hl h hrun hr
    rw [h] at hrun
    cases hrun
    exact hq _ _ hr
  induction n with
  | zero =>
    intro l s a w hl hn hcl hrun hr
    have h0 : rem ops l = [] := List.eq_nil_of_length_eq_zero hn
    refine ⟨?_, nil l s a w hl h0 hrun hr⟩
    cases hr' : Region.ready .any ops l with
    | nil => rfl
    | cons i r =>
      have hi : i ∈ Region.ready .any ops l := by rw [hr']; exact List.mem_cons_self
      obtain ⟨h1, h2, -⟩ := ready_iff.1 hi
      have : i ∈ rem ops l := by unfold rem; rw [List.mem_filter]; exact ⟨by simpa using h1, by simp [h2]⟩
      rw [h0] at this
      cases this
  | succ n ih =>
    intro l s a w hl hn hcl hrun hr
    constructor
    · intro hre
      refine nil l s a w hl ?_ hrun hr
      cases hm : rem ops l with
      | nil => rfl
      | cons i r =>
        exfalso
        have hall : ∀ j, j < i → l.getD j true = true := by
          intro j hj
          cases hlj : l.getD j true with
          | true => rfl
          | false =>
            exfalso
            have hi : i < ops.size := by
              have : i ∈ rem ops l := by rw [hm]; exact List.mem_cons_self
              unfold rem at this
              rw [List.mem_filter] at this
              simpa using this.1
            have hj' : j ∈ i :: r := by rw [← hm]; unfold rem; rw [List.mem_filter]; exact ⟨by simp; omega, by simp [hlj]⟩
            have hsort : (i :: r).Pairwise (· < ·) := by rw [← hm]; exact (List.pairwise_lt_range).filter _
            rw [List.pairwise_cons] at hsort
            rcases List.mem_cons.1 hj' with e | e
            · omega
            · have := hsort.1 j e; omega
        have hmem : i ∈ rem ops l := by rw [hm]; exact List.mem_cons_self
        unfold rem at hmem
        rw [List.mem_filter] at hmem
        have hi : i < ops.size := by simpa using hmem.1
        have hif : l.getD i true = false := by simpa using hmem.2
        have ho : ops[i]? = some ops[i] := Array.getElem?_eq_getElem hi
        have : i ∈ Region.ready .any ops l := ready_iff.2 ⟨hi, hif, _, ho, fun p hp => by
          have hlt := (orderOk_at hok (by rw [Array.getElem?_toList]; exact ho)).1 p hp
          rw [← same l p hl (by omega)]
          exact hall p hlt⟩
        rw [hre] at this
        cases this
    · intro i hi
      obtain ⟨h1, h2, o, ho, hp⟩ := ready_iff.1 hi
      have hmem : i ∈ rem ops l := by unfold rem; rw [List.mem_filter]; exact ⟨by simpa using h1, by simp [h2]⟩
      obtain ⟨A, B', hAB⟩ := List.append_of_mem hmem
      have hsort : (A ++ i :: B').Pairwise (· < ·) := by rw [← hAB]; exact (List.pairwise_lt_range).filter _
      have hA : ∀ j ∈ A, j < i ∧ l.getD j true = false := by
        intro j hj
        have hjm : j ∈ rem ops l := by rw [hAB]; exact List.mem_append_left _ hj
        unfold rem at hjm
        rw [List.mem_filter] at hjm
        exact ⟨(List.pairwise_append.1 hsort).2.2 j hj i List.mem_cons_self, by simpa using hjm.2⟩
      have e1 : opsAt ops (rem ops l) = opsAt ops A ++ o :: opsAt ops B' := by
        rw [hAB]
        unfold opsAt
        rw [List.filterMap_append, List.filterMap_cons, ho]
      have e2 : rem ops (l.setIfInBounds i true) = A ++ B' := by
        have hnd : (A ++ i :: B').Nodup := hsort.imp (fun h => Nat.ne_of_lt h)
        have : rem ops (l.setIfInBounds i true) = (rem ops l).filter (fun j => j != i) := by
          unfold rem
          rw [List.filter_filter]
          apply List.filter_congr
          intro j hj
          have hjl : j < ops.size := by simpa using hj
          by_cases e : j = i
          · subst e
            simp [Array.getD, show j < l.size by omega]
          · have : (l.setIfInBounds i true).getD j true = l.getD j true := by
              simp [Array.getD_eq_getD_getElem?, Array.getElem?_setIfInBounds_ne (fun c => e c.symm)]
            rw [this]
            simp [e]
        rw [this, hAB, List.filter_append, List.filter_cons]
        have hAi : ∀ j ∈ A, (j != i) = true := fun j hj => by have := (hA j hj).1; simp; omega
        have hBi : ∀ j ∈ B', (j != i) = true := fun j hj => by
          have := (List.pairwise_cons.1 (List.pairwise_append.1 hsort).2.1).1 j hj
          simp; omega
        simp [List.filter_eq_self.2 hAi, List.filter_eq_self.2 hBi]
      rw [e1] at hrun
      obtain ⟨s1, h3, h4⟩ := Run.front (fun z hz => by
        unfold opsAt at hz
        rw [List.mem_filterMap] at hz
        obtain ⟨j, hj, hzj⟩ := hz
        obtain ⟨hji, hjl⟩ := hA j hj
        rcases (orderOk_at hok (by rw [Array.getElem?_toList]; exact ho)).2.2 j z hji (by rw [Array.getElem?_toList]; exact hzj) with hb | hb
        · exfalso
          have hL := bits_listed hok (fun k => l.getD k false) (fun k ok hk => hcl k ok (by rw [← Array.getElem?_toList]; exact hk)) i o (by rw [Array.getElem?_toList]; exact ho) hp j hb
          rw [same l j hl (by omega)] at hjl
          rw [hjl] at hL
          cases hL
        · exact hb) hrun
      refine Step1_sound hE ho h3 hr fun a' w' hr' => ih (l.setIfInBounds i true) s1 a' w' (by simpa using hl) ?_ ?_ ?_ hr'
      · rw [e2]
        rw [hAB] at hn
        simp at hn ⊢
        omega
      · intro k ok hk hlk p hpk
        have up : ∀ q, l.getD q false = true → (l.setIfInBounds i true).getD q false = true := by
          intro q hq
          by_cases e : q = i
          · subst e; simp [Array.getD, show q < l.size by omega]
          · have : (l.setIfInBounds i true).getD q false = l.getD q false := by
              simp [Array.getD_eq_getD_getElem?, Array.getElem?_setIfInBounds_ne (fun c => e c.symm)]
            rw [this]; exact hq
        by_cases e : k = i
        · subst e
          rw [ho] at hk
          obtain rfl := Option.some.inj hk
          exact up p (hp p hpk)
        · have : (l.setIfInBounds i true).getD k false = l.getD k false := by
            simp [Array.getD_eq_getD_getElem?, Array.getElem?_setIfInBounds_ne (fun c => e c.symm)]
          rw [this] at hlk
          exact up p (hcl k ok hk hlk p hpk)
      · rw [e2]
        unfold opsAt at h4 ⊢
        rw [List.filterMap_append]
        exact h4

theorem draw_sound (hE : EnvOk P E) (hm : P.follows .mixedOrders = true) (id : Nat) {s : ASt} {a : Act} {w : World} {K : ASt → Prop} (hok : orderOk E.bs ops.toList = true) (h : axOps E ops.toList ops.toList s K) (hr : Rel M w0 H0 s a w)
    (hq : ∀ s' a' w', K s' → Rel M w0 H0 s' a' w' → Q .normal a' w') : (Code.region id ops true).wp P Q a w := by
  obtain ⟨t, h1, h2⟩ := axOps_rel h
  refine wp_region_any hm ?_
  have hrem : rem ops (Array.replicate ops.size false) = List.range ops.size := by
    unfold rem
    rw [List.filter_eq_self]
    intro i hi
    have : i < ops.size := by simpa using hi
    simp [Array.getD, this]
  refine wpAny_of hE hok (t := t) (fun a' w' hr' => hq t a' w' h2 hr') ops.size _ s a _ (by simp) (by rw [hrem]; simp) ?_ ?_ hr.drew
  · intro i o ho hl
    have hi : i < ops.size := by
      by_cases h : i < ops.size
      · exact h
      · rw [Array.getElem?_eq_none (by omega)] at ho; cases ho
    simp [Array.getD, hi] at hl
  · rw [hrem]
    have : opsAt ops (List.range ops.size) = ops.toList := by
      unfold opsAt
      apply List.ext_getElem?
      intro i
      have aux : ∀ n, n ≤ ops.size → (List.range n).filterMap (fun i => ops[i]?) = ops.toList.take n := by
        intro n
        induction n with
        | zero => intro _; rfl
        | succ n ih =>
          intro hn
          rw [List.range_succ, List.filterMap_append, ih (by omega)]
          have : ops[n]? = some ops[n] := Array.getElem?_eq_getElem (by omega)
          simp only [List.filterMap_cons, this, List.filterMap_nil]
          rw [List.take_succ_eq_append_getElem (by simp; omega)]
          simp
      rw [aux ops.size (Nat.le_refl _)]
      rw [show ops.size = ops.toList.length from by simp, List.take_length]
    rw [this]
    exact h1
end
end Go.Proofs.Yteccinlmblijfaa.Ax
/- Operations, calls that turn what is known of blocks of one's own. -/
set_option linter.unusedVariables false
set_option linter.unusedSimpArgs false
namespace Go.Proofs.Yteccinlmblijfaa.Ax
open Go Go.RowKit
theorem imms_rep (n : Nat) : imm.imms (List.replicate n SV.tt) = true := by
  induction n with
  | zero => rfl
  | succ n ih => exact ih
theorem allOk_rep (n : Nat) : allOk (List.replicate n SV.tt) = true := by
  induction n with
  | zero => rfl
  | succ n ih => exact ih
theorem side_many {Y : Side} {X : Type} {sz : Nat} {c : X → List SV} {d : X} {l : List X} (h : sideB Y = [.many X sz c d l]) : 0 < sz ∧ ∀ x, (c x).length = sz ∧ imm.imms (c x) = true ∧ allOk (c x) = true := by
  unfold sideB at h
  injection h with h _
  injection h with h1 h2 h3 h4 h5
  subst h1 h2
  obtain rfl := eq_of_heq h3
  exact ⟨by omega, fun _ => ⟨List.length_replicate, imms_rep _, allOk_rep _⟩⟩
theorem side_inj {X Y : Side} (h : sideB X = sideB Y) : X = Y := by
  unfold sideB at h
  injection h with h _
  injection h with h1 h2 h3 h4 h5
section
variable {P : Program} {E : Env} {M : BM} {w0 w : World} {H0 H : HM} {β : BM} {T : TM} {a : Act} {s : ASt} {ops : Array Oper} {Q : Exit → Act → World → Prop}
theorem W.chg {bx : Tr (Option (List SV))} (h : W M w0 H0 H β T bx w) {X Y : Side} (hx : bx.get 9999 none = some (sideB X)) {w' : World} (hc : Chg X Y w w') : W M w0 H0 H β T (bx.put 9999 (some (sideB Y))) w' := by
  have hs := h.side X hx
  have hh : bx.has 9999 = true := has_of_get hx
  have hget : ∀ id, (bx.put 9999 (some (sideB Y))).get id none = if 9999 = id then some (sideB Y) else bx.get id none := by
    intro id
    rw [Tr.get_put]
    by_cases hid : 9999 = id
    · subst hid; rw [if_pos ⟨rfl, hh⟩, if_pos rfl]
    · rw [if_neg (fun c => hid c.1), if_neg hid]
  have nH : ∀ b o v, H b o = some v → ¬ X.blk b := fun b o v e c => by rw [((hs.2 b c).2.1 o).1] at e; cases e
  have nT : ∀ b o v, T b o = some v → ¬ X.blk b := fun b o v e c => by rw [((hs.2 b c).2.1 o).2] at e; cases e
  have nβ : ∀ i b, β i = some b → ¬ X.blk b := fun i b e c => (hs.2 b c).1 i e
  have hcell : ∀ b o v, ¬ X.blk b → w.cell? ⟨b, o, none⟩ = some v → w'.cell? ⟨b, o, none⟩ = some v := fun b o v hb e => by
    rw [World.cell?_of_block (w := w) (hc.block b (cell_lt e) hb)]; exact e
  have hfro : ∀ b o, b < w.heap.size → ¬ X.blk b → w'.frozen? ⟨b, o, none⟩ = w.frozen? ⟨b, o, none⟩ := fun b o hl hb => World.frozen?_of_block (w := w) (hc.block b hl hb)
  refine ⟨fun b o v e => ⟨hcell b o v (nH b o v e) (h.lies b o v e).1, (h.lies b o v e).2⟩, ?_, ?_, h.inj, ?_, h.sep, h.hand, ?_, h.mine, h.out, ⟨hc.os.trans h.keep.os, hc.tape.trans h.keep.tape, hc.output.trans h.keep.output, Nat.le_trans h.keep.size hc.size, ?_, ?_⟩, h.ext, h.fresh, ?_, ?_⟩
  · intro id cs e hl
    rw [hget] at e
    by_cases hid : 9999 = id
    · rw [if_pos hid] at e
      obtain rfl := Option.some.inj e
      rw [xlen_side] at hl; omega
    · rw [if_neg hid] at e
      obtain ⟨k, hk, hm, hj⟩ := h.box id cs e hl
      refine ⟨k, hk, hm, fun j hlt => ?_⟩
      obtain ⟨a1, a2, a3, v, a4, a5⟩ := hj j hlt
      exact ⟨a1, a2, by rw [hfro _ _ (cell_lt a4) (nβ _ _ hk)]; exact a3, v, hcell _ _ _ (nβ _ _ hk) a4, a5⟩
  · intro id k e
    obtain ⟨a1, cs, a2⟩ := h.bβ id k e
    refine ⟨Nat.lt_of_lt_of_le a1 hc.size, ?_⟩
    rw [hget]
    by_cases hid : 9999 = id
    · exact ⟨_, if_pos hid⟩
    · exact ⟨cs, by rw [if_neg hid]; exact a2⟩
  · intro b o id e
    obtain ⟨a1, a2, a3⟩ := h.tail b o id e
    obtain ⟨v, hv⟩ := Option.isSome_iff_exists.1 a2
    exact ⟨a1, by rw [hcell _ _ _ (nT _ _ _ e) hv]; rfl, by rw [hfro _ _ (cell_lt hv) (nT _ _ _ e)]; exact a3⟩
  · intro id X' sz c d l e
    rw [hget] at e
    by_cases hid : 9999 = id
    · rw [if_pos hid] at e; exact side_many (Option.some.inj e)
    · rw [if_neg hid] at e; exact h.many _ _ _ _ _ _ e
  · intro k hk hno
    rw [hc.block k (Nat.lt_of_lt_of_le hk h.keep.size) (fun hb => ?_), h.keep.block k hk hno]
    rcases (hs.2 k hb).2.2 with ⟨i, -, e⟩ | e
    · exact hno ⟨i, e⟩
    · omega
  · intro k hk
    rw [hc.shape k (Nat.lt_of_lt_of_le hk h.keep.size), h.keep.shape k hk]
  · intro k e
    have he := h.edge k e
    have hb : ¬ X.blk k := fun hb => by
      obtain ⟨i, e | ⟨e1, e2, e3, e4⟩⟩ := e
      · exact nβ _ _ e hb
      · rcases (hs.2 k hb).2.2 with ⟨j, h1, h2⟩ | h1
        · exact e4 j h1 h2
        · omega
    exact ⟨Nat.lt_of_lt_of_le he.1 hc.size, fun c t lo hi q => he.2 c t lo hi (by rw [← hc.block k he.1 hb]; exact q)⟩
  · intro Z e
    rw [hget, if_pos rfl] at e
    obtain rfl := side_inj (Option.some.inj e)
    refine ⟨hc.holds, fun k hk => ?_⟩
    rcases hc.blk k hk with hb | hb
    · exact hs.2 k hb
    · refine ⟨fun i c => ?_, fun o => ⟨?_, ?_⟩, .inr (Nat.le_trans h.keep.size hb)⟩
      · have := (h.bβ _ _ c).1; omega
      · cases e : H k o with
        | none => rfl
        | some v => have := cell_lt (h.lies _ _ _ e).1; omega
      · cases e : T k o with
        | none => rfl
        | some v =>
          obtain ⟨-, a2, -⟩ := h.tail _ _ _ e
          obtain ⟨u, hu⟩ := Option.isSome_iff_exists.1 a2
          have := cell_lt hu; omega
theorem sideCallee_eq {op : Op} {c : Call} {g : Nat} (h : sideCallee op = some (c, g)) : op = .call c ∧ c.callee = .value (.func g) := by
  unfold sideCallee at h
  split at h
  · split at h
    · split at h
      · cases h; exact ⟨rfl, by assumption⟩
      · cases h
    · cases h
  · cases h
theorem side_sound [GlOk E H0 w0] (hE : EnvOk P E) {o : Oper} {next : Act → World → Prop} {K : ASt → Prop} (hr : Rel M w0 H0 s a w)
    (hk : sideStep E o s K) (hn : ∀ s' a' w', K s' → Rel M w0 H0 s' a' w' → next a' w') : o.wp P a w next Q := by
  obtain ⟨H, β, T, hf, hw⟩ := hr
  unfold sideStep at hk
  cases hb : s.bx.get 9999 none with
  | none => rw [hb] at hk; exact hk.elim
  | some cs =>
  rw [hb] at hk
  simp only at hk
  cases hcal : sideCallee o.op with
  | none =>
    rw [hcal] at hk
    obtain ⟨X, O, Y, r, rfl, ho, hk⟩ := hk
    refine hE.opx _ _ _ _ _ _ ho H β T a w Q next (fun z _ => ev_G hf z) (hw.side X hb).1 (fun b o v e => (hw.lies b o v e).1) (fun k hk q => (((hw.side X hb).2 k hk).2.1 q).1) (fun u v w' hc hg => ?_)
    have h1 := hk u
    simp only [force_eq, Tr.putK_eq, setK_eq] at h1
    exact hn _ _ _ h1 ⟨H, β, T, hf.put' hg o.dst, hw.chg hb hc⟩
  | some cg =>
    obtain ⟨c, g⟩ := cg
    obtain ⟨ho, hc⟩ := sideCallee_eq hcal
    rw [hcal] at hk
    simp only at hk
    cases hcx : E.ctrX g with
    | none => rw [hcx] at hk; exact hk.elim
    | some cx =>
    rw [hcx] at hk
    simp only [forceL_eq] at hk
    simp only [condsK_arrLs, condsK_arrLT, condsK] at hk
    obtain ⟨tb, harr, ht, -⟩ := gatherK_rel (fun _ _ h => h) 6 _ [] _ (fun _ _ e => by cases e) hk
    obtain ⟨ha1, harr2⟩ := arrCs_elim _ harr
    obtain ⟨ha2, x, hs, hi, hdom, rfl, hk2⟩ := arrT_elim tb harr2
    obtain ⟨⟨fn, hfn, hname, hbody⟩, hsound⟩ := hE.ctrX g cx hcx
    obtain ⟨hlen, hsub⟩ := SubL_at hs
    obtain ⟨vs, hvn, hvg, hrun⟩ := call_enters (w := w) (P := P) hf (.func g) g [] c ho hc rfl hfn hname hbody
    rw [List.append_nil] at hvn hvg
    rw [lendsW_length] at hlen
    let S : Nat → Prop := fun _ => True
    have hsd := hw.side _ hb
    have hargs : ∀ j, j < (cx.enc x).length → G (lent S H β s.bx w) noB noT (at' (cx.enc x) j .junk) (vs.getD j undef) := by
      intro j hj
      have h1 := lend_G hw (S := S) (fun _ _ _ => trivial) ht ha2 3 (allAs_at ha1 j) (hvg j (by omega))
      rw [← lendsW_at] at h1
      exact h1.sub (hsub j hj)
    have hcalls := hsound x (lent S H β s.bx w) w vs hdom (lent_lies S hw) (GlOk.ctrX hE (hw.ext.trans (lent_ext S hw)) hw.keep hcx) (by omega) hargs hsd.1 (fun k hk o => by
      unfold lent
      rw [if_neg]
      · exact ((hsd.2 k hk).2.1 o).1
      · rintro ⟨id, cs, -, -, h2, -⟩
        exact (hsd.2 k hk).1 id h2)
    unfold Oper.wp
    rw [hrun]
    simp only [Oper.upon]
    refine hcalls.mono ?_
    rintro e w' ⟨v, u, rfl, hchg, hg⟩
    have h1 := hk2 u
    rw [force_eq] at h1
    cases hsc : scal (cx.res x u) with
    | false => rw [hsc] at h1; exact h1.elim
    | true =>
      rw [hsc] at h1
      simp only [Tr.putK_eq, setK_eq] at h1
      exact hn _ _ _ h1 ⟨H, β, T, hf.put' (hg.mono (fun _ _ _ h => by cases h) (noB_le _) (noT_le _)) o.dst, hw.chg hb hchg⟩
theorem opK_sound [GlOk E H0 w0] (hE : EnvOk P E) {o : Oper} {next : Act → World → Prop} {K : ASt → Prop} (hr : Rel M w0 H0 s a w)
    (hk : opK E o s K) (hn' : ∀ s' a' w', K s' → Rel M w0 H0 s' a' w' → next a' w') : o.wp P a w next Q := by
  unfold opK at hk
  cases ha : isApp o.op with
  | none =>
    rw [ha] at hk
    simp only at hk
    cases hfz : isFrz E.bs o with
    | some c =>
      rw [hfz] at hk
      simp only at hk
      cases hd : o.dst with
      | none => rw [hd] at hk; exact hk.elim
      | some d =>
        rw [hd] at hk
        exact frz_sound hE hr (isFrz_eq hfz) hd hk hn'
    | none =>
      rw [hfz] at hk
      obtain ⟨v, b, h2, h3⟩ := stepB_rel hk
      rw [setK_eq] at h3
      obtain ⟨H, β, T, hf, hw⟩ := hr
      refine step_sound hE hf hw (k := fun v' s1 => v' = v ∧ s1 = ⟨s.fr, b⟩) ?_ (h2 _ ⟨rfl, rfl⟩)
      rintro v' s1 val H' β' T' w' ⟨rfl, rfl⟩ hf' hw' hg
      exact hn' _ _ _ h3 ⟨H', β', T', hf'.put' hg _, hw'⟩
  | some xyt =>
    obtain ⟨x, y, t⟩ := xyt
    rw [ha] at hk
    simp only at hk
    cases hd : o.dst with
    | none => rw [hd] at hk; exact hk.elim
    | some d =>
      rw [hd] at hk
      simp only [force_eq] at hk
      cases hv : vecD E.bs d with
      | true => rw [hv] at hk; exact appV_sound hE hr ha hd hk hn'
      | false =>
        rw [hv] at hk
        simp only at hk
        cases hx : ev s x with
        | arr b z q n c =>
          rw [hx] at hk
          simp only at hk
          cases hvv : hasVec E.bs with
          | false => rw [hvv] at hk; exact hk.elim
          | true =>
            rw [hvv] at hk
            exact appX_sound hE hr ha hd hx hk hn'
        | _ => rw [hx] at hk; exact app_sound hE hr ha hd (by rw [hx]; exact hk) hn'
theorem stepX_sound [GlOk E H0 w0] (hE : EnvOk P E) {o : Oper} {next : Act → World → Prop} {K : ASt → Prop} (hr : Rel M w0 H0 s a w)
    (hk : stepX E o s K) (hn : ∀ s' a' w', K s' → Rel M w0 H0 s' a' w' → next a' w') : o.wp P a w next Q := by
  unfold stepX at hk
  cases hs : isSide E.bs o with
  | true => rw [hs] at hk; exact side_sound hE hr hk hn
  | false => rw [hs] at hk; exact opK_sound hE hr hk hn
theorem wpOp_guard {i : Nat} {o : Oper} (hi : ops[i]? = some o) {j g : Nat} {b : Bool} (hg : o.guard = some (j, b)) (hgo : gOf ops.toList j = some g) (hgs : g < a.tmps.size) (c : Bool) (hv : a.tmps.getD g undef = .bool c)
    {next : Act → World → Prop} (hrun : c = b → o.wp P a w next Q) (hskip : c ≠ b → next (a.put o.dst undef) w) : wpOp P ops Q i next a w := by
  unfold wpOp
  simp only [hi]
  by_cases h : c = b
  · subst h
    rw [if_pos (by simp only [Region.wanted, hg, yielded_eq hgo hgs, hv]; simp)]
    exact .inl (hrun rfl)
  · rw [if_neg (by simp only [Region.wanted, hg, yielded_eq hgo hgs, hv]; cases b <;> cases c <;> simp_all)]
    exact hskip h
theorem axOpsX_sound [GlOk E H0 w0] (hE : EnvOk P E) {K : ASt → Prop} (hq : ∀ s' a' w', K s' → Rel M w0 H0 s' a' w' → Q .normal a' w') : ∀ (os : List Oper) (i : Nat) (s : ASt) (a : Act) (w : World),
    ops.toList.drop i = os → axOpsX E ops.toList os s K → Rel M w0 H0 s a w → wpOps P ops Q (List.range' i os.length) a w
  | [], i, s, a, w, _, h, hr => by
    unfold axOpsX at h
    rw [norm_eq] at h
    exact hq _ _ _ h hr
  | o :: os, i, s, a, w, hd, h, hr => by
    have hi : ops[i]? = some o := by
      have : ops.toList[i]? = some o := by
        have := congrArg (fun l => l[0]?) hd
        simpa using this
      rwa [Array.getElem?_toList] at this
    have hd' : ops.toList.drop (i + 1) = os := by
      have := congrArg List.tail hd
      simpa using this
    rw [List.length_cons, List.range'_succ, wpOps_cons]
    have ih := fun s a w h hr => axOpsX_sound hE hq os (i + 1) s a w hd' h hr
    unfold axOpsX at h
    rw [norm_eq] at h
    have skip : ∀ (s0 : ASt), Rel M w0 H0 s0 a w → axOpsX E ops.toList os ⟨setD o.dst (.val undef) s0.fr, s0.bx⟩ K → wpOps P ops Q (List.range' (i + 1) os.length) (a.put o.dst undef) w := by
      intro s0 hr0 h0
      obtain ⟨H, β, T, hf, hw⟩ := hr0
      exact ih _ _ _ h0 ⟨H, β, T, hf.put' .undef _, hw⟩
    have run : ∀ (s0 : ASt), Rel M w0 H0 s0 a w → (stepX E o s0 fun s => axOpsX E ops.toList os s K) → o.wp P a w (wpOps P ops Q (List.range' (i + 1) os.length)) Q := fun s0 hr0 h0 =>
      stepX_sound hE hr0 h0 fun s' a' w' h' hr' => ih s' a' w' h' hr'
    cases hg : o.guard with
    | none =>
      rw [hg] at h
      unfold wpOp
      simp only [hi]
      rw [if_pos (by simp [Region.wanted, hg])]
      exact .inl (run s hr h)
    | some jb =>
      obtain ⟨j, b⟩ := jb
      rw [hg] at h
      simp only at h
      cases hgo : gOf ops.toList j with
      | none => rw [hgo] at h; exact h.elim
      | some g =>
        rw [hgo] at h
        simp only at h
        cases hx : s.fr.get g .junk with
        | tt =>
          rw [hx] at h
          simp only [setK_eq] at h
          obtain ⟨-, h1, h2⟩ := Ref_rel (g := g) (b := true) ⟨.inl hx, rfl⟩ hr
          refine wpOp_guard hi hg hgo h1 true h2 (fun e => ?_) (fun e => ?_)
          · subst e; exact run s hr h
          · cases b with
            | true => exact absurd rfl e
            | false => exact skip s hr h
        | ff =>
          rw [hx] at h
          simp only [setK_eq] at h
          obtain ⟨-, h1, h2⟩ := Ref_rel (g := g) (b := false) ⟨.inl hx, rfl⟩ hr
          refine wpOp_guard hi hg hgo h1 false h2 (fun e => ?_) (fun e => ?_)
          · subst e; exact run s hr h
          · cases b with
            | false => exact absurd rfl e
            | true => exact skip s hr h
        | val v =>
          rw [hx] at h
          cases v with
          | bool c =>
            simp only [setK_eq, Tr.putK_eq] at h
            obtain ⟨hr0, h1, h2⟩ := Ref_rel (g := g) (b := c) ⟨.inr hx, rfl⟩ hr
            refine wpOp_guard hi hg hgo h1 c h2 (fun e => ?_) (fun e => ?_)
            · subst e
              cases c with
              | true => exact run _ hr0 (h.1 rfl)
              | false => exact run _ hr0 (h.2 rfl)
            · cases c with
              | true => cases b with
                | true => exact absurd rfl e
                | false => exact skip _ hr0 (h.1 rfl)
              | false => cases b with
                | false => exact absurd rfl e
                | true => exact skip _ hr0 (h.2 rfl)
          | tuple z =>
            simp only [setK_eq] at h
            obtain ⟨H, β, T, hf, hw⟩ := id hr
            have hgl : s.fr.has g = true := by
              cases hl : s.fr.has g with
              | true => rfl
              | false => rw [Tr.get_out _ _ _ hl] at hx; cases hx
            have hv := hf.val g
            rw [hx] at hv
            have hv := gval hv
            unfold wpOp
            simp only [hi]
            rw [if_neg (by simp only [Region.wanted, hg, yielded_eq hgo (hf.size g hgl), hv]; simp)]
            exact skip s hr h
          | _ => exact h.elim
        | _ => rw [hx] at h; exact h.elim
theorem regionX_sound [GlOk E H0 w0] (hE : EnvOk P E) (id : Nat) {K : ASt → Prop} (h : axOpsX E ops.toList ops.toList s K) (hr : Rel M w0 H0 s a w) (hq : ∀ s' a' w', K s' → Rel M w0 H0 s' a' w' → Q .normal a' w') :
    (Code.region id ops false).wp P Q a w := by
  refine wp_region ?_
  have := axOpsX_sound (ops := ops) (Q := Q) hE hq ops.toList 0 s a w (by simp) h hr
  rwa [Array.length_toList, ← List.range_eq_range'] at this
end
end Go.Proofs.Yteccinlmblijfaa.Ax
/- Code, and functions: what the logic shows of a body is the function's contract. -/
set_option linter.unusedVariables false
set_option linter.unusedSimpArgs false
namespace Go.Proofs.Yteccinlmblijfaa.Ax
open Go Go.RowKit

/-! ### 1. Knowing less -/
def restr (β : BM) (bx : Tr (Option (List SV))) : BM := fun b => match bx.get b none with
  | some _ => β b
  | none => none
theorem restr_le (β : BM) (bx : Tr (Option (List SV))) : BLe (restr β bx) β := fun b k h => by
  unfold restr at h
  split at h
  · exact h
  · cases h
theorem refOks_at {bx : Tr (Option (List SV))} {l : List SV} (h : refOk.refOks bx l = true) : ∀ j, j < l.length → refOk bx (at' l j .junk) = true := by
  induction l with
  | nil => intro j hj; simp at hj
  | cons x xs ih =>
    intro j hj
    unfold refOk.refOks at h
    cases hx : refOk bx x with
    | false => rw [hx] at h; simp at h
    | true =>
      rw [hx] at h
      cases j with
      | zero => exact hx
      | succ j => exact ih h j (by simpa using hj)
theorem refOkT_at {bx : Tr (Option (List SV))} : ∀ {t : Tr SV}, refOkT bx t = true → ∀ j, refOk bx (t.get j .junk) = true
  | .nil, _, _ => rfl
  | .node v l r, h, j => by
    unfold refOkT at h
    cases hv : refOk bx v with
    | false => rw [hv] at h; simp at h
    | true =>
      rw [hv] at h
      simp only at h
      cases hl : refOkT bx l with
      | false => rw [hl] at h; simp at h
      | true =>
        rw [hl] at h
        cases j with
        | zero => exact hv
        | succ j =>
          simp only [Tr.get]
          rcases Tr.half j with ⟨e, -⟩ | ⟨e, -⟩ <;> rw [e]
          · exact refOkT_at hl _
          · exact refOkT_at h _
theorem refOkB_at {bx : Tr (Option (List SV))} : ∀ {t : Tr (Option (List SV))}, refOkB bx t = true → ∀ id cs, t.get id none = some cs → refOk.refOks bx cs = true
  | .nil, _, _, _, e => by cases e
  | .node v l r, h, id, cs, e => by
    have parts : (∀ cs, v = some cs → refOk.refOks bx cs = true) ∧ refOkB bx l = true ∧ refOkB bx r = true := by
      unfold refOkB at h
      cases v with
      | none =>
        simp only at h
        cases hl : refOkB bx l with
        | false => rw [hl] at h; simp at h
        | true => rw [hl] at h; exact ⟨fun _ e => (by cases e), rfl, h⟩
      | some c =>
        simp only at h
        cases hx : refOk.refOks bx c with
        | false => rw [hx] at h; simp at h
        | true =>
          rw [hx] at h
          simp only at h
          cases hl : refOkB bx l with
          | false => rw [hl] at h; simp at h
          | true => rw [hl] at h; exact ⟨fun _ e => (by cases e; exact hx), rfl, h⟩
    obtain ⟨h1, h2, h3⟩ := parts
    cases id with
    | zero =>
      simp only [Tr.get] at e
      exact h1 _ e
    | succ j =>
      simp only [Tr.get] at e
      rcases Tr.half j with ⟨e', -⟩ | ⟨e', -⟩ <;> rw [e'] at e
      · exact refOkB_at h2 _ _ e
      · exact refOkB_at h3 _ _ e
theorem G.forget {H : HM} {β : BM} {T : TM} {s : SV} {v : Value} (h : G H β T s v) (bx : Tr (Option (List SV))) : refOk bx s = true → G H (restr β bx) T s v := by
  have box : ∀ b k, refOk bx (.box b 0) = true → β b = some k → restr β bx b = some k := by
    intro b k h1 h2
    unfold restr
    simp only [refOk] at h1
    cases e : bx.get b none with
    | none => rw [e] at h1; simp at h1
    | some _ => exact h2
  induction h with
  | val v => intros; exact .val v
  | tt => intros; exact .tt
  | ff => intros; exact .ff
  | junk v => intros; exact .junk v
  | nb Q b h => intros; exact .nb Q b h
  | rowE => intros; exact .rowE ..
  | row X sz cs d l b off c vs hc hz hh hg ih => intros; exact .row X sz cs d l b off c vs hc hz hh hg
  | ownE => intros; exact .ownE ..
  | own X sz cs d l id b off c vs hc hz hh hg hT ih => intros; exact .own X sz cs d l id b off c vs hc hz hh hg hT
  | elt X sz cs d l i o b p vs hz hh hg ih => intros; exact .elt X sz cs d l i o b p vs hz hh hg
  | box b o k h => intro hi; exact .box b o k (box b k hi h)
  | arr b z o n cap k c h hc he => intro hi; exact .arr b z o n cap k c (box b k hi h) hc he
  | arrE b z o a c => intros; exact .arrE ..
  | plc b z i o k hi' h => intro hi; exact .plc b z i o k hi' (box b k hi h)
  | ifc t v => intros; exact .ifc t v
  | e0 a => intros; exact .e0 a
  | agg l vs hn h ih => intro hi; exact .agg l vs hn fun j e => ih j e box (refOks_at (by simpa [refOk] using hi) j e)
  | tup l vs hn h ih => intro hi; exact .tup l vs hn fun j e => ih j e box (refOks_at (by simpa [refOk] using hi) j e)
  | fn g l vs hn h ih => intro hi; exact .fn g l vs hn fun j e => ih j e box (refOks_at (by simpa [refOk] using hi) j e)

theorem WeakL_at : ∀ {a b : List SV}, WeakL a b → a.length = b.length ∧ ∀ j, j < b.length → Sub (at' a j .junk) (at' b j .junk)
  | [], [], _ => ⟨rfl, fun j hj => by simp at hj⟩
  | x :: xs, y :: ys, h => by
    have two : Sub x y ∧ WeakL xs ys := by
      unfold WeakL at h
      cases y with
      | junk => exact ⟨.junk _, h⟩
      | _ => exact h
    obtain ⟨hl, hs⟩ := WeakL_at two.2
    refine ⟨by simp [hl], fun j hj => ?_⟩
    cases j with
    | zero => exact two.1
    | succ j => exact hs j (by simpa using hj)
  | [], _ :: _, h => h.elim
  | _ :: _, [], h => h.elim
theorem weakT_at : ∀ {a b : Tr SV} {k : Prop}, weakT a b k → k ∧ (∀ j, a.has j = b.has j) ∧ ∀ j, Sub (a.get j .junk) (b.get j .junk)
  | .nil, .nil, k, h => ⟨h, fun _ => rfl, fun _ => .refl _⟩
  | .node v l r, .node v' l' r', k, h => by
    have two : Sub v v' ∧ weakT l l' (weakT r r' k) := by
      unfold weakT at h
      cases v' with
      | junk => exact ⟨.junk _, h⟩
      | _ => exact h
    obtain ⟨h1, h2, h3⟩ := weakT_at two.2
    obtain ⟨h4, h5, h6⟩ := weakT_at h1
    refine ⟨h4, fun j => ?_, fun j => ?_⟩
    · cases j with
      | zero => rfl
      | succ j =>
        simp only [Tr.has]
        rcases Tr.half j with ⟨e, -⟩ | ⟨e, -⟩ <;> rw [e]
        · exact h2 _
        · exact h5 _
    · cases j with
      | zero => exact two.1
      | succ j =>
        simp only [Tr.get]
        rcases Tr.half j with ⟨e, -⟩ | ⟨e, -⟩ <;> rw [e]
        · exact h3 _
        · exact h6 _
  | .nil, .node _ _ _, _, h => h.elim
  | .node _ _ _, .nil, _, h => h.elim
theorem weakB_at : ∀ {a b : Tr (Option (List SV))} {k : Prop}, weakB a b k → k ∧ ∀ id ct, b.get id none = some ct →
    (∃ cs, a.get id none = some cs ∧ isMany cs = isMany ct ∧ WeakL cs ct) ∨ (a.get id none = none ∧ ∃ X sz c d, ct = [.many X sz c d []] ∧ sz < 7777 ∧ 0 < sz ∧ ∀ x, (c x).length = sz ∧ imm.imms (c x) = true ∧ allOk (c x) = true)
  | .nil, .nil, k, h => ⟨h, fun id ct e => by cases e⟩
  | .node v l r, .node v' l' r', k, h => by
    have two : (∀ ct, v' = some ct → (∃ cs, v = some cs ∧ isMany cs = isMany ct ∧ WeakL cs ct) ∨ (v = none ∧ ∃ X sz c d, ct = [.many X sz c d []] ∧ sz < 7777 ∧ 0 < sz ∧ ∀ x, (c x).length = sz ∧ imm.imms (c x) = true ∧ allOk (c x) = true)) ∧ weakB l l' (weakB r r' k) := by
      unfold weakB at h
      cases v' with
      | none => exact ⟨fun _ e => (by cases e), h⟩
      | some ct =>
        cases v with
        | none =>
          simp only at h
          obtain ⟨X, sz, c, d, q, rfl, ⟨rfl, ⟨h1, h7⟩, h2⟩, h3⟩ := manyK_elim h
          exact ⟨fun ct e => .inr ⟨rfl, X, sz, c, d, (by cases e; rfl), h7, h1, h2⟩, h3⟩
        | some cs =>
          simp only at h
          cases m1 : isMany cs with
          | true =>
            rw [m1] at h
            cases m2 : isMany ct with
            | false => rw [m2] at h; exact h.elim
            | true => rw [m2] at h; exact ⟨fun ct' e => (by cases e; exact .inl ⟨cs, rfl, by rw [m1, m2], h.1⟩), h.2⟩
          | false =>
            rw [m1] at h
            cases m2 : isMany ct with
            | true => rw [m2] at h; exact h.elim
            | false => rw [m2] at h; exact ⟨fun ct' e => (by cases e; exact .inl ⟨cs, rfl, by rw [m1, m2], h.1⟩), h.2⟩
    obtain ⟨h1, h2⟩ := weakB_at two.2
    obtain ⟨h3, h4⟩ := weakB_at h1
    refine ⟨h3, fun id ct e => ?_⟩
    cases id with
    | zero => exact two.1 ct e
    | succ j =>
      simp only [Tr.get] at e ⊢
      rcases Tr.half j with ⟨e', -⟩ | ⟨e', -⟩ <;> rw [e'] at e ⊢
      · exact h2 _ _ e
      · exact h4 _ _ e
  | .nil, .node _ _ _, _, h => h.elim
  | .node _ _ _, .nil, _, h => h.elim
/-- what is known of a variable's cells, when less is known -/
theorem weakC_spec {x y : List SV} (hm : isMany x = isMany y) (h : WeakL x y) : xlen x = xlen y ∧ (∀ j, j < xlen y → ∀ {H : HM} {β : BM} {T : TM} {v : Value}, G H β T (xat x j) v → G H β T (xat y j) v) ∧ (∀ X sz c d l, y = [.many X sz c d l] → x = y) := by
  have hs : SubL x y := by
    obtain ⟨hl, hs⟩ := WeakL_at h
    clear h hm
    induction x generalizing y with
    | nil => cases y with
      | nil => trivial
      | cons _ _ => simp at hl
    | cons a xs ih => cases y with
      | nil => simp at hl
      | cons b ys => exact ⟨hs 0 (by simp), ih (by simpa using hl) fun j hj => hs (j + 1) (by simpa using hj)⟩
  exact subC_spec ⟨hm, hs⟩

section
variable {P : Program} {E : Env} {M : BM} {w0 : World} {H0 : HM}
theorem Weak.rel {s t : ASt} {a : Act} {w : World} (h : Weak s t) (hr : Rel M w0 H0 s a w) : Rel M w0 H0 t a w := by
  obtain ⟨H, β, T, hf, hw⟩ := hr
  obtain ⟨⟨h1, h2⟩, h3⟩ := h
  obtain ⟨h3, hl, hs⟩ := weakT_at h3
  obtain ⟨-, h4⟩ := weakB_at h3
  refine ⟨H, restr β t.bx, T, ⟨fun j hj => hf.size j (by rw [hl]; exact hj), hf.defers, fun j => ?_⟩, ?_⟩
  · exact ((hf.val j).sub (hs j)).forget t.bx (refOkT_at h1 j)
  · refine ⟨hw.lies, ?_, ?_, ?_, hw.tail, fun b o id e i c => hw.sep b o id e i (restr_le _ _ _ _ c), fun i k e => ⟨(hw.hand i k e).1, fun k' c => (hw.hand i k e).2 k' (restr_le _ _ _ _ c)⟩, ?_, fun i k e => hw.mine i k (restr_le _ _ _ _ e), fun i e1 e2 => ?_, hw.keep, hw.ext, hw.fresh, fun k e => hw.edge k (by obtain ⟨i, e | e⟩ := e; exact ⟨i, .inl (restr_le _ _ _ _ e)⟩; exact ⟨i, .inr e⟩), fun Y e => ?_⟩
    · intro id ct e hlt
      rcases h4 id ct e with ⟨cs, hcs, hmm, hwk⟩ | ⟨-, X, sz, c, d, rfl, -⟩
      · obtain ⟨c1, c2, c3⟩ := weakC_spec hmm hwk
        obtain ⟨k, hk, hm, hj⟩ := hw.box id cs hcs (by omega)
        refine ⟨k, by unfold restr; rw [e]; exact hk, hm, fun j hjl => ?_⟩
        obtain ⟨a1, a2, a3, v, a4, a5⟩ := hj j (by omega)
        refine ⟨a1, a2, a3, v, a4, ?_⟩
        have a6 := c2 j hjl a5
        cases hmt : isMany ct with
        | false =>
          rw [xat_not hmt] at a6 ⊢
          rw [xlen_not hmt] at hjl
          exact a6.forget t.bx (refOks_at (refOkB_at h2 id ct e) j hjl)
        | true =>
          match ct, hmt, e, a6, hjl with
          | [.many X sz c d l], _, e, a6, hjl =>
            have hst := hw.many id X sz c d l (by rw [hcs, c3 _ _ _ _ _ rfl])
            have e1 : xat [SV.many X sz c d l] j = at' (c (l.getD (j / sz) d)) (j % sz) .junk := rfl
            rw [e1] at a6 ⊢
            exact a6.imm (imms_at (hst.2 _).2.1 _ (by rw [(hst.2 _).1]; exact Nat.mod_lt _ hst.1)) _ _
          | a :: b :: r, _, e, a6, hjl =>
            rw [xat_two] at a6 ⊢
            rw [xlen_two] at hjl
            exact a6.forget t.bx (refOks_at (refOkB_at h2 id _ e) j hjl)
      · have : xlen [SV.many X sz c d []] = 0 := by show ([] : List X).length * sz = 0; simp
        omega
    · intro id k e
      have e' := restr_le _ _ _ _ e
      refine ⟨(hw.bβ id k e').1, ?_⟩
      unfold restr at e
      cases ht : t.bx.get id none with
      | none => rw [ht] at e; cases e
      | some ct => exact ⟨ct, rfl⟩
    · intro i j k ei ej
      exact hw.inj i j k (restr_le _ _ _ _ ei) (restr_le _ _ _ _ ej)
    · intro id X sz c d l e
      rcases h4 id _ e with ⟨cs, hcs, hmm, hwk⟩ | ⟨-, X', sz', c', d', e2, -, h5⟩
      · obtain ⟨c1, c2, c3⟩ := weakC_spec hmm hwk
        exact hw.many id X sz c d l (by rw [hcs, c3 _ _ _ _ _ rfl])
      · cases e2; exact h5
    · cases c : restr β t.bx i with
      | none => rfl
      | some k => have := restr_le _ _ _ _ c; rw [hw.out i e1 e2] at this; cases this
    · rcases h4 9999 _ e with ⟨cs, hcs, hmm, hwk⟩ | ⟨-, X', sz', c', d', e2, h7, -⟩
      · obtain ⟨-, -, c3⟩ := weakC_spec hmm hwk
        have hs := hw.side Y (by rw [hcs, c3 _ _ _ _ _ rfl])
        exact hs.of (fun _ _ _ => rfl) (fun k _ hq => ⟨fun i c => (hs.2 k hq).1 i (restr_le _ _ _ _ c), (hs.2 k hq).2.1⟩)
      · unfold sideB at e2
        injection e2 with e2 _
        injection e2 with _ e2
        omega

/-! ### 2. Code -/
def exOf : Ex → Exit
  | .normal => .normal
  | .exit n => .exit n
  | .ret => .ret
theorem blankK_eq : ∀ (t : Tr SV) (k : Tr SV → Prop), blankK t k = k (blank t)
  | .nil, _ => rfl
  | .node v l r, k => by simp only [blankK, blank, blankK_eq l, blankK_eq r]
theorem blankBK_eq : ∀ (t : Tr (Option (List SV))) (k : Tr (Option (List SV)) → Prop), blankBK t k = k (blankB t)
  | .nil, _ => rfl
  | .node v l r, k => by simp only [blankBK, blankB, blankBK_eq l, blankBK_eq r]
theorem putsK_eq : ∀ (f : List (Nat × SV)) (t : Tr SV) (k : Tr SV → Prop), putsK f t k = k (puts f t)
  | [], _, _ => rfl
  | (i, v) :: r, t, k => by simp only [putsK, puts, force_eq, Tr.putK_eq, putsK_eq r]
theorem putsBK_eq : ∀ (f : List (Nat × List SV)) (t : Tr (Option (List SV))) (k : Tr (Option (List SV)) → Prop), putsBK f t k = k (putsB f t)
  | [], _, _ => rfl
  | (i, v) :: r, t, k => by simp only [putsBK, putsB, forceL_eq, Tr.putK_eq, putsBK_eq r]
theorem stK_eq (s : ASt) (f : List (Nat × SV)) (b : List (Nat × List SV)) (k : ASt → Prop) : stK s f b k = k (stOf s f b) := by
  simp only [stK, stOf, blankK_eq, putsK_eq, blankBK_eq, putsBK_eq]
theorem ax_sound [GlOk E H0 w0] (hE : EnvOk P E) (hm : P.follows .mixedOrders = true) : ∀ (c : Code) {Q : Exit → Act → World → Prop} {s : ASt} {K : Ex → ASt → Prop} {a : Act} {w : World},
    ax E c s K → Rel M w0 H0 s a w → (∀ e s' a' w', K e s' → Rel M w0 H0 s' a' w' → Q (exOf e) a' w') → c.wp P Q a w := by
  intro c
  induction c with
  | skip => intro Q s K a w h hr hq; exact wp_skip (hq .normal s a w h hr)
  | region id ops draw =>
    intro Q s K a w h hr hq
    cases draw with
    | false =>
      simp only [ax] at h
      cases hsd : E.sd with
      | false => rw [hsd] at h; exact region_sound hE id h hr fun s' a' w' hk hr' => hq .normal s' a' w' hk hr'
      | true => rw [hsd] at h; exact regionX_sound hE id h hr fun s' a' w' hk hr' => hq .normal s' a' w' hk hr'
    | true => exact draw_sound hE hm id h.1 h.2 hr fun s' a' w' hk hr' => hq .normal s' a' w' hk hr'
  | seq x y ihx ihy =>
    intro Q s K a w h hr hq
    cases hc : cutAt E.bs y with
    | false =>
      simp only [ax, hc] at h
      refine wp_seq (ihx h hr ?_)
      intro e s' a' w' hk hr'
      cases e with
      | normal => exact ihy hk hr' hq
      | exit n => exact hq (.exit n) s' a' w' hk hr'
      | ret => exact hq .ret s' a' w' hk hr'
    | true =>
      simp only [ax, hc, stK_eq] at h
      obtain ⟨A, fs, bs, inv, h, hrest⟩ := h
      refine wp_seq (ihx h hr ?_)
      intro e s' a' w' hk hr'
      cases e with
      | normal =>
        obtain ⟨z, hz, hwk⟩ := hk
        exact ihy (hrest z hz) (hwk.rel hr') hq
      | exit n => exact hq (.exit n) s' a' w' hk hr'
      | ret => exact hq .ret s' a' w' hk hr'
  | cond c x y ihx ihy =>
    intro Q s K a w h hr hq
    have hr0 := hr
    obtain ⟨H, β, T, hf, hw⟩ := hr
    have hc := ev_G hf c
    simp only [ax] at h
    generalize hev : ev s c = p at h hc
    generalize hav : a.eval c = v at hc
    cases p with
    | tt => cases hc; exact wp_cond_true hav (ihx h hr0 hq)
    | ff => cases hc; exact wp_cond_false hav (ihy h hr0 hq)
    | val u =>
      obtain rfl := gval hc
      cases v with
      | bool t =>
        cases t with
        | true => exact wp_cond_true hav (ihx (h.1 rfl) hr0 hq)
        | false => exact wp_cond_false hav (ihy (h.2 rfl) hr0 hq)
      | _ => exact h.elim
    | nb Q0 =>
      cases hc with
      | nb _ b hb =>
        cases b with
        | true => exact wp_cond_true hav (ihx (h.1 hb) hr0 hq)
        | false => exact wp_cond_false hav (ihy (h.2 hb) hr0 hq)
    | _ => exact h.elim
  | block id x ih =>
    intro Q s K a w h hr hq
    refine wp_block (ih h hr ?_)
    intro e s' a' w' hk hr'
    cases e with
    | normal => exact hq .normal s' a' w' hk hr'
    | exit n =>
      show (if n = id then Q .normal a' w' else Q (.exit n) a' w')
      cases hb : Nat.beq n id with
      | true =>
        simp only [hb] at hk
        rw [if_pos (Nat.eq_of_beq_eq_true hb)]
        exact hq .normal s' a' w' hk hr'
      | false =>
        simp only [hb] at hk
        rw [if_neg (fun c => by rw [c, Nat.beq_refl] at hb; cases hb)]
        exact hq (.exit n) s' a' w' hk hr'
    | ret => exact hq .ret s' a' w' hk hr'
  | loop x ih =>
    intro Q s K a w h hr hq
    simp only [ax, stK_eq] at h
    obtain ⟨A, fs, bs, inv, μ, ⟨x0, hi0, hw0⟩, hround⟩ := h
    let tm : A → ASt := fun x => stOf s (fs x) (bs x)
    replace hw0 : Weak s (tm x0) := hw0
    refine wp_loop_ghost (fun n a w => ∃ z, inv z ∧ μ z = n ∧ Rel M w0 H0 (tm z) a w) (μ x0) ⟨x0, hi0, rfl, hw0.rel hr⟩ ?_
    rintro n a1 w1 ⟨z, hz, rfl, hrz⟩
    refine ih (hround z hz) hrz ?_
    intro e s' a' w' hk hr'
    cases e with
    | normal =>
      obtain ⟨y, hy, hlt, hwk⟩ := hk
      exact ⟨μ y, hlt, y, hy, rfl, hwk.rel hr'⟩
    | exit n => exact hq (.exit n) s' a' w' hk hr'
    | ret => exact hq .ret s' a' w' hk hr'
  | exit n => intro Q s K a w h hr hq; exact wp_exit (hq (.exit n) s a w h hr)
  | ret => intro Q s K a w h hr hq; exact wp_ret (hq .ret s a w h hr)
  | _ => intro Q s K a w h hr hq; exact h.elim
end

/-! ### 3. Functions -/
def isPlc : SV → Bool
  | .plc _ _ _ _ => true
  | _ => false
/-- the results' values -/
def resK (E : Env) : List ResultVar → ASt → (List SV → Prop) → Prop
  | [], _, k => k []
  | r :: rs, s, k => match r with
    | .tmp t => force (s.fr.get t .junk) fun v => resK E rs s fun l => k (v :: l)
    | .cell p t => match isPlc (s.fr.get p .junk) with
      | true => False
      | false => tiK E.ty t fun t => loadK t (s.fr.get p .junk) s.bx fun v => resK E rs s fun l => k (v :: l)
def res1 : List SV → SV
  | [x] => x
  | l => .tup l
/-- all rows that may grow bear one number -/
def ren (id : Nat) : SV → SV
  | .own T sz cs d l _ => .own T sz cs d l id
  | .agg l => .agg (rens id l)
  | .tup l => .tup (rens id l)
  | .fn g l => .fn g (rens id l)
  | x => x
where rens (id : Nat) : List SV → List SV
  | [] => []
  | x :: xs => ren id x :: rens id xs
theorem rens_length (id : Nat) : ∀ l : List SV, (ren.rens id l).length = l.length
  | [] => rfl
  | x :: xs => by simp [ren.rens, rens_length id xs]
theorem rens_at (id : Nat) : ∀ (l : List SV) (j : Nat), at' (ren.rens id l) j .junk = ren id (at' l j .junk)
  | [], _ => rfl
  | x :: xs, 0 => rfl
  | x :: xs, j + 1 => rens_at id xs j
theorem G.ren {H : HM} {β : BM} {T : TM} {s : SV} {v : Value} (h : G H β T s v) (id : Nat) : G H β (fun b o => (T b o).map fun _ => id) (Ax.ren id s) v := by
  induction h with
  | val v => exact .val v
  | tt => exact .tt
  | ff => exact .ff
  | junk v => exact .junk v
  | nb Q b h => exact .nb Q b h
  | rowE => exact .rowE ..
  | row X sz cs d l b off c vs hc hz hh hg ih => exact .row X sz cs d l b off c vs hc hz hh hg
  | ownE => exact .ownE ..
  | own X sz cs d l i b off c vs hc hz hh hg hT ih => exact .own X sz cs d l id b off c vs hc hz hh hg (fun o a e => by rw [hT o a e]; rfl)
  | elt X sz cs d l i o b p vs hz hh hg ih => exact .elt X sz cs d l i o b p vs hz hh hg
  | box b o k h => exact .box b o k h
  | arr b z o n cap k c h hc he => exact .arr b z o n cap k c h hc he
  | arrE b z o a c => exact .arrE ..
  | plc b z i o k hi h => exact .plc b z i o k hi h
  | ifc t v => exact .ifc t v
  | e0 a => exact .e0 a
  | agg l vs hn h ih => exact .agg _ vs (by rw [rens_length]; exact hn) fun j e => by rw [rens_at]; exact ih j (by rw [rens_length] at e; exact e)
  | tup l vs hn h ih => exact .tup _ vs (by rw [rens_length]; exact hn) fun j e => by rw [rens_at]; exact ih j (by rw [rens_length] at e; exact e)
  | fn g l vs hn h ih => exact .fn g _ vs (by rw [rens_length]; exact hn) fun j e => by rw [rens_at]; exact ih j (by rw [rens_length] at e; exact e)

/-- where a body begins -/
def st0 (args : List SV) (n : Nat) : ASt := ⟨(Tr.mk (.val undef) n n).fill 0 args, Tr.mk none n n⟩
theorem mk_has {α : Type _} (v : α) : ∀ (f n j : Nat), n ≤ f → (Tr.mk v f n).has j = decide (j < n)
  | 0, n, j, h => by obtain rfl : n = 0 := by omega
                     simp [Tr.mk, Tr.has]
  | f + 1, 0, j, h => by simp [Tr.mk, Tr.has]
  | f + 1, n + 1, 0, h => by simp [Tr.mk, Tr.has]
  | f + 1, n + 1, j + 1, h => by
    simp only [Tr.mk, Tr.has]
    have h1 : Nat.div (n + 1) 2 = (n + 1) / 2 := rfl
    have h2 : Nat.div n 2 = n / 2 := rfl
    rcases Tr.half j with ⟨e, ej⟩ | ⟨e, ej⟩ <;> rw [e]
    · simp only
      rw [mk_has v f _ _ (by omega), decide_eq_decide]
      omega
    · simp only
      rw [mk_has v f _ _ (by omega), decide_eq_decide]
      omega
theorem mk_get {α : Type _} (v : α) : ∀ (f n j : Nat) (d : α), n ≤ f → (Tr.mk v f n).get j d = if j < n then v else d
  | 0, n, j, d, h => by obtain rfl : n = 0 := by omega
                        simp [Tr.mk, Tr.get]
  | f + 1, 0, j, d, h => by simp [Tr.mk, Tr.get]
  | f + 1, n + 1, 0, d, h => by simp [Tr.mk, Tr.get]
  | f + 1, n + 1, j + 1, d, h => by
    simp only [Tr.mk, Tr.get]
    have h1 : Nat.div (n + 1) 2 = (n + 1) / 2 := rfl
    have h2 : Nat.div n 2 = n / 2 := rfl
    rcases Tr.half j with ⟨e, ej⟩ | ⟨e, ej⟩ <;> rw [e] <;> simp only
    · rw [mk_get v f _ _ _ (by omega)]
      by_cases c : Nat.div j 2 < Nat.div (n + 1) 2
      · rw [if_pos c, if_pos (by omega)]
      · rw [if_neg c, if_neg (by omega)]
    · rw [mk_get v f _ _ _ (by omega)]
      by_cases c : Nat.div j 2 < Nat.div n 2
      · rw [if_pos c, if_pos (by omega)]
      · rw [if_neg c, if_neg (by omega)]
theorem fill_has {α : Type _} : ∀ (l : List α) (t : Tr α) (i j : Nat), (t.fill i l).has j = t.has j
  | [], _, _, _ => rfl
  | x :: xs, t, i, j => by
    show ((t.put i x).fill (i + 1) xs).has j = _
    rw [fill_has xs, Tr.has_put]
theorem fill_get {α : Type _} (d : α) : ∀ (l : List α) (t : Tr α) (i j : Nat), (∀ q, q < i + l.length → t.has q = true) → (t.fill i l).get j d = if i ≤ j ∧ j < i + l.length then at' l (j - i) d else t.get j d
  | [], t, i, j, h => by
    rw [if_neg (by simp)]
    rfl
  | x :: xs, t, i, j, h => by
    show ((t.put i x).fill (i + 1) xs).get j d = _
    rw [fill_get d xs _ _ _ (fun q hq => by rw [Tr.has_put]; exact h q (by simp; omega))]
    by_cases c : i + 1 ≤ j ∧ j < i + 1 + xs.length
    · rw [if_pos c, if_pos (by simp; omega)]
      obtain ⟨q, rfl⟩ : ∃ q, j = i + 1 + q := ⟨j - (i + 1), by omega⟩
      rw [show i + 1 + q - (i + 1) = q by omega, show i + 1 + q - i = q + 1 by omega]
      rfl
    · rw [if_neg c, Tr.get_put]
      by_cases e : i = j
      · subst e
        rw [if_pos ⟨rfl, h i (by simp)⟩, if_pos (by simp)]
        rw [Nat.sub_self]
        rfl
      · rw [if_neg (fun c => e c.1), if_neg (by simp; omega)]
/-- a value out of a call's own new blocks, and plain values, alone -/
def scA (tb : List (Nat × List SV)) : SV → Prop → Prop
  | .arr b _ _ _ _, k => match lookT tb b with
    | some cs => manyK cs fun _ _ c _ _ => (∀ x, scal.scals (c x) = true) ∧ k
    | none => False
  | .agg l, k => scAs tb l k
  | .tup l, k => scAs tb l k
  | .val _, k => k
  | .tt, k => k
  | .ff, k => k
  | .junk, k => k
  | .ifc, k => k
  | .e0, k => k
  | _, _ => False
where scAs (tb : List (Nat × List SV)) : List SV → Prop → Prop
  | [], k => k
  | x :: xs, k => scA tb x (scAs tb xs k)
/-- what a body must come to -/
def endK (id : Nat) (r : SV) (fr : Bool) (x : SV) (s : ASt) : Prop := match hasB x with
  | false => match fr with
    | false => Sub (ren id x) r ∧ refOk .nil r = true
    | true => scal x = true ∧ Sub (ren id x) r ∧ refOk .nil r = true
  | true => gatherK s.bx 6 (boxesOf x []) [] fun tb => arrC tb x (arrT tb tb (match fr with
    | false => Sub (lendW (lendB tb 3) (lendR tb) x) r ∧ refOk .nil r = true
    | true => scA tb x (Sub (lendW (lendB tb 3) (lendR tb) x) r ∧ refOk .nil r = true)))
def PostG (E : Env) (rs : List ResultVar) (id : Nat) (r : SV) (fr : Bool) (e : Ex) (s : ASt) : Prop := match e with
  | .exit _ => False
  | _ => resK E rs s fun l => endK id r fr (res1 l) s
def Post (E : Env) (rs : List ResultVar) (id : Nat) (r : SV) (e : Ex) (s : ASt) : Prop := PostG E rs id r false e s

def okF (tb : List (Nat × List SV)) : SV → Prop
  | .arr b _ _ _ _ => ∃ X sz c d l, lookT tb b = some [.many X sz c d l] ∧ ∀ x, scal.scals (c x) = true
  | .agg l => okFs tb l
  | .tup l => okFs tb l
  | .val _ => True
  | .tt => True
  | .ff => True
  | .junk => True
  | .ifc => True
  | .e0 => True
  | _ => False
where okFs (tb : List (Nat × List SV)) : List SV → Prop
  | [] => True
  | x :: xs => okF tb x ∧ okFs tb xs
theorem okFs_at {tb : List (Nat × List SV)} : ∀ {l : List SV}, okF.okFs tb l → ∀ j, okF tb (at' l j .junk)
  | [], _, _ => trivial
  | x :: xs, h, 0 => h.1
  | x :: xs, h, j + 1 => okFs_at h.2 j
mutual
theorem scA_elim {tb : List (Nat × List SV)} : ∀ (x : SV) {k : Prop}, scA tb x k → okF tb x ∧ k
  | .arr b z o n c, k, h => by
    simp only [scA] at h
    cases hl : lookT tb b with
    | none => rw [hl] at h; exact h.elim
    | some cs =>
      rw [hl] at h
      obtain ⟨X, sz, c, d, l, rfl, h1, h2⟩ := manyK_elim h
      exact ⟨⟨X, sz, c, d, l, hl, h1⟩, h2⟩
  | .agg l, k, h => scAs_elim l h
  | .tup l, k, h => scAs_elim l h
  | .val _, k, h => ⟨trivial, h⟩
  | .tt, k, h => ⟨trivial, h⟩
  | .ff, k, h => ⟨trivial, h⟩
  | .junk, k, h => ⟨trivial, h⟩
  | .ifc, k, h => ⟨trivial, h⟩
  | .e0, k, h => ⟨trivial, h⟩
  | .fn _ _, k, h => h.elim
  | .row .., k, h => h.elim
  | .own .., k, h => h.elim
  | .elt .., k, h => h.elim
  | .box .., k, h => h.elim
  | .plc .., k, h => h.elim
  | .many .., k, h => h.elim
  | .nb _, k, h => h.elim
theorem scAs_elim {tb : List (Nat × List SV)} : ∀ (l : List SV) {k : Prop}, scA.scAs tb l k → okF.okFs tb l ∧ k
  | [], k, h => ⟨trivial, h⟩
  | x :: xs, k, h => by
    obtain ⟨h1, h2⟩ := scA_elim x h
    obtain ⟨h3, h4⟩ := scAs_elim xs h2
    exact ⟨⟨h1, h3⟩, h4⟩
end
/-- such a value hangs on the new blocks alone -/
theorem okF_G {tb : List (Nat × List SV)} {f : Nat → Nat → SV} {HL HN : HM} {β : BM} (hn : ∀ b cs k, lookT tb b = some cs → β b = some k → ∀ j, j < xlen cs → ∃ u, HN k j = some u ∧ ∃ (H : HM) (β' : BM) (T : TM), G H β' T (xat cs j) u) (hz : ∀ b X sz c d l, lookT tb b = some [.many X sz c d l] → 0 < sz ∧ ∀ x, (c x).length = sz ∧ imm.imms (c x) = true)
    {T : TM} {x : SV} {v : Value} (h : G HL β T x v) : okF tb x → allA (arrOk tb) x → G HN noB noT (lendW f (lendR tb) x) v := by
  induction h with
  | val v => intros; exact .val v
  | tt => intros; exact .tt
  | ff => intros; exact .ff
  | junk v => intros; exact .junk v
  | ifc t v => intros; exact .ifc t v
  | e0 a => intros; exact .e0 a
  | arrE b z o a c => intro _ _; exact lendR_zero tb b z o a c
  | arr b z o n cap k c hb hc he =>
    rintro ⟨X, sz, cc, d, l, hl, hsc⟩ hok
    rcases lendR_elim (tb := tb) (b := b) (z := z) (o := o) (n := n) with e | ⟨X', c', d', l', hl', e⟩
    · show G HN noB noT (lendR tb b z o n) _
      rw [e]; exact .junk _
    · show G HN noB noT (lendR tb b z o n) _
      rw [e]
      rw [hl] at hl'
      cases hl'
      obtain ⟨h0, hzz⟩ := hz _ _ _ _ _ _ hl
      refine row_of_many (fun x => (hzz x).1) (fun x => (hzz x).2) hc (hok _ _ _ _ _ hl) fun j hj => ?_
      obtain ⟨u, hu, H, β', T, hg⟩ := hn b _ k hl hb j hj
      have e1 : xat [SV.many X z cc d l] j = at' (cc (l.getD (j / z) d)) (j % z) .junk := rfl
      rw [e1] at hg
      refine ⟨u, hu, noB, noT, ?_⟩
      rw [e1]
      exact hg.scal (scals_at (hsc _) _ (by rw [(hzz _).1]; exact Nat.mod_lt _ h0)) _ _ _
  | agg l vs hn' h ih => intro hf ha; exact .agg _ vs (by rw [lendsW_length]; exact hn') fun j e => by rw [lendsW_at]; exact ih j (by rw [lendsW_length] at e; exact e) hn (okFs_at hf j) (allAs_at ha j)
  | tup l vs hn' h ih => intro hf ha; exact .tup _ vs (by rw [lendsW_length]; exact hn') fun j e => by rw [lendsW_at]; exact ih j (by rw [lendsW_length] at e; exact e) hn (okFs_at hf j) (allAs_at ha j)
  | _ => intro hf; exact hf.elim

section
variable {P : Program} {E : Env} {M : BM} {w0 : World} {H0 : HM}
def resM (tmps : Array Value) : ResultVar → Sem Value
  | .tmp t => pure (tmps.getD t undef)
  | .cell p t => do loadVar t (← asAddr (tmps.getD p undef))
theorem results_run (hE : EnvOk P E) {s : ASt} {a : Act} {w : World} {H : HM} {β : BM} {T : TM} (hf : FR H β T s.fr a) (hw : W M w0 H0 H β T s.bx w) : ∀ (rs : List ResultVar) (k : List SV → Prop), resK E rs s k →
    ∃ (l : List SV) (vs : List Value), k l ∧ vs.length = l.length ∧ (∀ j, j < l.length → G H β T (at' l j .junk) (vs.getD j undef)) ∧
      (rs.mapM (resM a.tmps)).run P w = .ok vs w
  | [], k, h => ⟨[], [], h, rfl, fun j hj => by simp at hj, rfl⟩
  | r :: rs, k, h => by
    have fin : ∀ (v : SV) (val : Value), G H β T v val → (resM a.tmps r).run P w = .ok val w →
        resK E rs s (fun l => k (v :: l)) → ∃ (l : List SV) (vs : List Value), k l ∧ vs.length = l.length ∧ (∀ j, j < l.length → G H β T (at' l j .junk) (vs.getD j undef)) ∧
      ((r :: rs).mapM (resM a.tmps)).run P w = .ok vs w := by
      intro v val hg hrun hk
      obtain ⟨l, vs, h1, h2, h3, h4⟩ := results_run hE hf hw rs _ hk
      refine ⟨v :: l, val :: vs, h1, by simp [h2], fun j hj => ?_, ?_⟩
      · cases j with
        | zero => exact hg
        | succ j => exact h3 j (by simpa using hj)
      · rw [List.mapM_cons, Sem.run_bind]
        have : ∀ (X : Sem Value), X.run P w = .ok val w → ((X.run P w).andThen fun a_1 w' => (do let __do_lift ← (rs.mapM (resM a.tmps)); pure (a_1 :: __do_lift) : Sem (List Value)).run P w') = .ok (val :: vs) w := by
          intro X hX
          rw [hX, Result.andThen_ok, Sem.run_bind, h4]
          rfl
        exact this _ hrun
    cases r with
    | tmp t =>
      simp only [resK, force_eq] at h
      exact fin _ _ (ev_G hf (.tmp t)) rfl h
    | cell p t =>
      simp only [resK] at h
      have hplc : ∀ b z i q, s.fr.get p .junk ≠ .plc b z i q := by
        intro b z i q e
        rw [e] at h
        exact h.elim
      cases hip : isPlc (s.fr.get p .junk) with
      | true => rw [hip] at h; exact h.elim
      | false =>
      rw [hip] at h
      simp only at h
      obtain ⟨ti, hti, h⟩ := tiK_elim h
      have hT := hE.ty _ _ hti
      have hx := ev_G hf (.tmp p)
      have h1 : ti.agg = false → 0 < ti.size := hT.one
      have run : ∀ (b q : Nat) (f : Nat → Value), a.tmps.getD p undef = .pointer (some ⟨b, q, none⟩) → (∀ j, j < ti.size → w.cell? ⟨b, q + j, none⟩ = some (f j)) →
          (do loadVar t (← asAddr (a.tmps.getD p undef)) : Sem Value).run P w = .ok (if ti.agg then .agg ((List.range ti.size).map f).toArray else f 0) w := by
        intro b q f hp hc
        rw [Sem.run_bind, hp]
        show (loadVar t ⟨b, q, none⟩).run P w = _
        exact run_loadVar hT b q f hc h1
      unfold loadK at h
      replace hx : G H β T (s.fr.get p .junk) (a.tmps.getD p undef) := hx
      generalize hev : s.fr.get p .junk = pv at h hx
      cases pv with
      | box b q =>
        simp only at h
        cases hb : s.bx.get b none with
        | none => rw [hb] at h; exact h.elim
        | some cs =>
          rw [hb] at h
          simp only at h
          cases hpl : plain cs with
          | false => rw [hpl] at h; exact h.elim
          | true =>
          rw [hpl] at h
          simp only at h
          obtain ⟨hx1, hx0⟩ := xlen_plain hpl
          cases hle : Nat.ble (q + ti.size) cs.length with
          | false => rw [hle] at h; exact h.elim
          | true =>
            rw [hle] at h
            simp only [wholeK_eq] at h
            have hle' := Nat.le_of_ble_eq_true hle
            generalize hav : a.tmps.getD p undef = val at hx
            cases hx with
            | box _ _ kk hβ =>
              obtain ⟨k2, hk2, -, hj⟩ := hw.box b cs hb (by omega)
              obtain rfl : kk = k2 := Option.some.inj (hβ.symm.trans hk2)
              have hc : ∀ j, ∃ v, j < ti.size → w.cell? ⟨kk, q + j, none⟩ = some v ∧ G H β T (at' cs (q + j) .junk) v := fun j => by
                by_cases hlt : j < ti.size
                · obtain ⟨-, -, -, v, h4, h5⟩ := hj (q + j) (by omega)
                  rw [xat_plain hpl] at h5
                  exact ⟨v, fun _ => ⟨h4, h5⟩⟩
                · exact ⟨undef, fun c => absurd c hlt⟩
              refine fin _ _ (whole_G (takeDrop_length cs ti.size q hle') (f := fun j => Classical.choose (hc j)) (fun j hlt => ?_) ti.agg h1) (run kk q _ hav fun j hlt => (Classical.choose_spec (hc j) hlt).1) h
              rw [at'_takeDrop _ _ _ _ _ hlt]
              exact (Classical.choose_spec (hc j) hlt).2
      | plc b z i q =>
        exfalso
        exact hplc b z i q hev
      | elt X z cs d l i q =>
        simp only at h
        cases hle : Nat.ble (q + ti.size) z with
        | false => rw [hle] at h; exact h.elim
        | true =>
          rw [hle] at h
          simp only at h
          cases hfree : ownFree.ownFrees (takeN ti.size (dropN q (cs (l.getD i.toNat d)))) with
          | false => rw [hfree] at h; exact h.elim
          | true =>
          rw [hfree] at h
          simp only [wholeK_eq] at h
          have hle' := Nat.le_of_ble_eq_true hle
          generalize hav : a.tmps.getD p undef = val at hx
          cases hx with
          | elt _ _ _ _ _ _ _ b p' vs hz hH hG =>
            refine fin _ _ (whole_G (takeDrop_length _ ti.size q (by omega)) (f := fun j => vs (q + j)) (fun j hlt => ?_) ti.agg h1) (run b (p' + q) _ hav fun j hlt => ?_) h
            · rw [at'_takeDrop _ _ _ _ _ hlt]
              exact (hG (q + j) (by omega)).mono (.refl _) (noB_le _) (noT_le _)
            · rw [Nat.add_assoc]
              exact (hw.lies _ _ _ (hH (q + j) (by omega))).1
      | _ => exact h.elim

theorem results_G (hE : EnvOk P E) {s : ASt} {a : Act} {w : World} {H : HM} {β : BM} {T : TM} (hf : FR H β T s.fr a) (hw : W M w0 H0 H β T s.bx w) (fn : Func) (k : List SV → Prop) (h : resK E fn.results.toList s k) :
    ∃ (l : List SV) (v : Value), k l ∧ G H β T (res1 l) v ∧ (results fn a.tmps).run P w = .ok v w := by
  obtain ⟨l, vs, h1, h2, h3, h4⟩ := results_run hE hf hw fn.results.toList k h
  refine ⟨l, if h : vs.length = 1 then vs[0] else .tuple vs.toArray, h1, ?_, ?_⟩
  · by_cases hl : vs.length = 1
    · rw [dif_pos hl]
      match l, vs, h2, hl, h3 with
      | [x], [v], _, _, h3 => exact h3 0 (by simp)
      | [], [_], h2, _, _ => simp at h2
      | _ :: _ :: _, [_], h2, _, _ => simp at h2
    · rw [dif_neg hl]
      have hr : res1 l = .tup l := by
        match l, h2 with
        | [], _ => rfl
        | [_], h2 => exact absurd h2 hl
        | _ :: _ :: _, _ => rfl
      rw [hr]
      refine .tup l vs.toArray (by simpa using h2) fun j hj => ?_
      have := h3 j hj
      rw [← getD_toList]
      simpa using this
  · rw [show results fn a.tmps = (do let vs ← fn.results.mapM (resM a.tmps); pure (if h : vs.size = 1 then vs[0] else .tuple vs)) from rfl]
    rw [Array.mapM_eq_mapM_toList]
    rw [Sem.run_bind, Sem.run_map, h4]
    simp only [Result.andThen_ok, Sem.run_pure]
    congr 1

/-- A contract out of the body; the callees' contracts may be chosen case by case. -/
theorem ctr_of_axG (hm : P.follows .mixedOrders = true) {g : Nat} {fn : Func} {body : Code} (c : Ctr) (hf : P.funcs[g]? = some fn) (hname : (fn.name == "runtime.NumGoroutine") = false) (hb : fn.body = some body)
    (hlen : ∀ x, c.dom x → (c.enc x).length ≤ fn.ntmps) (h : ∀ (x : c.A) (id : Nat), c.dom x → ∃ E, EnvOk P E ∧ (∀ w, c.gl w → E.gl w) ∧ ax E body (st0 (c.enc x) fn.ntmps) (PostG E fn.results.toList id (c.res x id) c.fresh)) : CtrSound P g c := by
  refine ⟨⟨fn, hf, hname, by rw [hb]; rfl⟩, ?_⟩
  intro x H w vs id hd hseal hgl hsz hG
  obtain ⟨E, hE, hEg, hax⟩ := h x id hd
  haveI : GlOk E H w := ⟨fun w' hs hsh => hEg w' (hgl w' hs hsh)⟩
  have hlen := hlen x hd
  refine calls_of_wp hf hb ?_
  have hnone : ∀ id, (Tr.mk (none : Option (List SV)) fn.ntmps fn.ntmps).get id none = none := by
    intro id
    rw [mk_get _ _ _ _ _ (Nat.le_refl _)]
    split <;> rfl
  have hr : Rel noB w H (st0 (c.enc x) fn.ntmps) { tmps := vs ++ Array.replicate (fn.ntmps - vs.size) undef, defers := [] } w := by
    refine ⟨H, noB, noT, ⟨?_, rfl, ?_⟩, ⟨fun b o v e => ⟨hseal b o v e, rfl⟩, fun id cs e _ => (by rw [show (st0 (c.enc x) fn.ntmps).bx = Tr.mk none fn.ntmps fn.ntmps from rfl, hnone] at e; cases e), fun _ _ e => (by cases e), fun _ _ _ e => (by cases e), fun _ _ _ e => (by cases e), fun _ _ _ e => (by cases e), fun _ _ e => (by cases e), fun id X sz cs d l e => (by rw [show (st0 (c.enc x) fn.ntmps).bx = Tr.mk none fn.ntmps fn.ntmps from rfl, hnone] at e; cases e), fun _ _ e => (by cases e), fun _ _ _ => rfl, ⟨rfl, rfl, rfl, Nat.le_refl _, fun _ _ _ => rfl, fun _ _ => rfl⟩, .refl _, fun _ _ _ => .inr rfl, fun _ e => (by obtain ⟨_, e | ⟨_, e, _⟩⟩ := e <;> cases e), fun X e => by rw [show (st0 (c.enc x) fn.ntmps).bx = Tr.mk none fn.ntmps fn.ntmps from rfl, hnone] at e; cases e⟩⟩
    · intro j hj
      simp only [st0, fill_has, mk_has _ _ _ _ (Nat.le_refl _), decide_eq_true_eq] at hj
      simp
      omega
    intro j
    show G H noB noT (((Tr.mk (.val undef) fn.ntmps fn.ntmps).fill 0 (c.enc x)).get j .junk) _
    rw [fill_get _ _ _ _ _ (fun q hq => by rw [mk_has _ _ _ _ (Nat.le_refl _)]; simp; omega)]
    by_cases hl : j < (c.enc x).length
    · rw [if_pos (by omega), Nat.sub_zero]
      have e2 : (vs ++ Array.replicate (fn.ntmps - vs.size) undef).getD j undef = vs.getD j undef := by
        simp [Array.getD_eq_getD_getElem?, Array.getElem?_append, show j < vs.size by omega]
      rw [e2]
      exact hG j hl
    · rw [if_neg (by omega), mk_get _ _ _ _ _ (Nat.le_refl _)]
      by_cases hn : j < fn.ntmps
      · rw [if_pos hn]
        have e2 : (vs ++ Array.replicate (fn.ntmps - vs.size) undef).getD j undef = undef := by
          have h2 : j - vs.size < fn.ntmps - vs.size := by omega
          simp [Array.getD_eq_getD_getElem?, Array.getElem?_append, show ¬ j < vs.size by omega, h2]
        rw [e2]
        exact .val _
      · rw [if_neg hn]; exact .junk _
  refine ax_sound hE hm body hax hr ?_
  intro e s' a' w' hp hr'
  have main : resK E fn.results.toList s' (fun l => endK id (c.res x id) c.fresh (res1 l) s') → a'.defers = [] ∧ ∃ v, (results fn a'.tmps).run P w' = .ok v w' ∧ ∃ v' H' T', Ending.returned v = .returned v' ∧ Below w.heap.size w w' ∧ HLe H H' ∧ (∀ b o, b < w.heap.size → H' b o = H b o) ∧
      (∀ b o i, T' b o = some i → w.heap.size ≤ b ∧ (w'.cell? ⟨b, o, none⟩).isSome = true ∧ w'.frozen? ⟨b, o, none⟩ = false) ∧
      (∀ b o v, H' b o = some v → w'.cell? ⟨b, o, none⟩ = some v ∧ T' b o = none) ∧ G H' noB T' (c.res x id) v' ∧ (c.fresh = true → G (newH w H') noB T' (c.res x id) v') := by
    intro hp
    obtain ⟨H', β, T, hf', hw'⟩ := hr'
    obtain ⟨l, v, h1, h3, h4⟩ := results_G hE hf' hw' fn _ hp
    have hloc : ∀ i k, β i = some k → w.heap.size ≤ k := by
      intro i k e
      rcases (hw'.mine i k e).1 with ⟨j, c⟩ | c
      · cases c
      · exact c
    have hbelow : Below w.heap.size w w' := ⟨hw'.keep.os, hw'.keep.tape, hw'.keep.output, hw'.keep.size, fun k hk => hw'.keep.block k hk (fun ⟨_, c⟩ => by cases c)⟩
    have htail : ∀ b o i, (fun b o => (T b o).map fun _ => id : TM) b o = some i → w.heap.size ≤ b ∧ (w'.cell? ⟨b, o, none⟩).isSome = true ∧ w'.frozen? ⟨b, o, none⟩ = false := by
      intro b o i e
      replace e : (T b o).map (fun _ => id) = some i := e
      cases ht : T b o with
      | none => rw [ht] at e; cases e
      | some i' =>
        obtain ⟨a1, a2, a3⟩ := hw'.tail b o i' ht
        exact ⟨a1.noB, a2, a3⟩
    unfold endK at h1
    cases hB : hasB (res1 l) with
    | false =>
      rw [hB] at h1
      have hsub : (c.fresh = true → scal (res1 l) = true) ∧ Sub (ren id (res1 l)) (c.res x id) ∧ refOk .nil (c.res x id) = true := by
        cases hfr : c.fresh with
        | false => rw [hfr] at h1; exact ⟨fun e => (by cases e), h1⟩
        | true => rw [hfr] at h1; exact ⟨fun _ => h1.1, h1.2⟩
      obtain ⟨hs0, hs1, hs2⟩ := hsub
      have fin : ∀ H2 : HM, G H2 β T (res1 l) v → G H2 noB (fun b o => (T b o).map fun _ => id) (c.res x id) v := by
        intro H2 hg
        have := ((hg.ren id).sub hs1).forget .nil hs2
        refine this.mono (.refl _) ?_ (.refl _)
        intro b k e
        simp [restr, Tr.get] at e
      refine ⟨hf'.defers, v, h4, v, H', (fun b o => (T b o).map fun _ => id), rfl, hbelow, hw'.ext, fun b o hlt => noRoom (hw'.fresh b o hlt), htail, ?_, fin H' h3, fun hfr => fin _ (h3.scal (hs0 hfr) _ _ _)⟩
      intro b o v e
      obtain ⟨a1, a2⟩ := hw'.lies b o v e
      exact ⟨a1, by show (T b o).map (fun _ => id) = none; rw [a2]; rfl⟩
    | true =>
      rw [hB] at h1
      obtain ⟨tb, harr, ht, -⟩ := gatherK_rel (fun _ _ h => h) 6 _ [] _ (fun _ _ e => by cases e) h1
      obtain ⟨ha1, harr2⟩ := arrC_elim _ harr
      obtain ⟨ha2, hend⟩ := arrT_elim tb harr2
      have hsub : (c.fresh = true → okF tb (res1 l)) ∧ Sub (lendW (lendB tb 3) (lendR tb) (res1 l)) (c.res x id) ∧ refOk .nil (c.res x id) = true := by
        cases hfr : c.fresh with
        | false => rw [hfr] at hend; exact ⟨fun e => (by cases e), hend⟩
        | true => rw [hfr] at hend; obtain ⟨g1, g2⟩ := scA_elim _ hend; exact ⟨fun _ => g1, g2⟩
      obtain ⟨hs0, hs1, hs2⟩ := hsub
      let S : Nat → Prop := fun _ => True
      have hH : HLe H (lent S H' β s'.bx w') := hw'.ext.trans (lent_ext S hw')
      have hold : ∀ b o, b < w.heap.size → lent S H' β s'.bx w' b o = H b o := by
        intro b o hlt
        unfold lent
        rw [if_neg]
        · exact noRoom (hw'.fresh b o hlt)
        · rintro ⟨i, cs, -, -, h2, -⟩
          have := hloc _ _ h2
          omega
      refine ⟨hf'.defers, v, h4, v, lent S H' β s'.bx w', (fun b o => (T b o).map fun _ => id), rfl, hbelow, hH, hold, htail, ?_, ?_, fun hfr => ?_⟩
      · intro b o u e
        exact ⟨lent_lies S hw' _ _ _ e, by show (T b o).map (fun _ => id) = none; rw [lent_T S hw' _ _ _ e]; rfl⟩
      · exact ((lend_G hw' (S := S) (fun _ _ _ => trivial) ht ha2 3 ha1 h3).sub hs1).mono (.refl _) (noB_le _) (noT_le _)
      · refine ((okF_G (HN := newH w (lent S H' β s'.bx w')) (f := lendB tb 3) (fun b cs k e1 e2 j hj => ?_) (fun b X sz cc d l e => ?_) h3 (hs0 hfr) ha1).sub hs1).mono (.refl _) (noB_le _) (noT_le _)
        · obtain ⟨k', hk', -, hj2⟩ := hw'.box b cs (ht _ _ e1) (by omega)
          obtain rfl : k = k' := Option.some.inj (e2.symm.trans hk')
          obtain ⟨-, -, -, u, hu, hg⟩ := hj2 j hj
          refine ⟨u, ?_, H', β, T, hg⟩
          unfold newH
          rw [if_neg (by have := hloc _ _ e2; omega)]
          unfold lent
          rw [if_pos ⟨b, cs, trivial, ht _ _ e1, e2, hj⟩, hu]
        · obtain ⟨g1, g2⟩ := hw'.many _ _ _ _ _ _ (ht _ _ e)
          exact ⟨g1, fun x => ⟨(g2 x).1, (g2 x).2.1⟩⟩
  cases e with
  | normal => exact main hp
  | exit n => exact hp.elim
  | ret => exact main hp
theorem ctr_of_ax (hE : EnvOk P E) (hm : P.follows .mixedOrders = true) {g : Nat} {fn : Func} {body : Code} (c : Ctr) (hf : P.funcs[g]? = some fn) (hname : (fn.name == "runtime.NumGoroutine") = false) (hb : fn.body = some body) (hlen : ∀ x, c.dom x → (c.enc x).length ≤ fn.ntmps)
    (h : ∀ (x : c.A) (id : Nat), c.dom x → ax E body (st0 (c.enc x) fn.ntmps) (Post E fn.results.toList id (c.res x id)))
    (hgl : ∀ w, c.gl w → E.gl w := by intro _ h; exact h) (hfr : c.fresh = false := by rfl) : CtrSound P g c :=
  ctr_of_axG hm c hf hname hb hlen fun x id hd => ⟨E, hE, hgl, by rw [hfr]; exact h x id hd⟩
/-! ### 4. Functions that change variables -/
/-- where such a body begins -/
def stB (args : List SV) (pre : List (List SV)) (n : Nat) : ASt := ⟨(Tr.mk (.val undef) n n).fill 0 args, treeOf 1000 pre (Tr.mk none n n)⟩
/-- a variable of the body's own that a value names -/
def madeN : List Nat → Option Nat
  | [] => none
  | b :: r => match Nat.blt b 1000 with
    | true => some b
    | false => madeN r
def madeP {α : Type _} (post : List α) (l : List Nat) : Option Nat := match post with
  | [] => none
  | _ :: _ => madeN l
/-- the name of a variable behind the body: n: of the one that it made -/
def outN (nw : Option Nat) (n : Nat) (b : Nat) : Option Nat := match Nat.blt b 1000 with
  | false => match Nat.blt b n with
    | true => some b
    | false => none
  | true => match nw with
    | some b' => match Nat.beq b b' with
      | true => some n
      | false => none
    | none => none
def postL (f ow : Nat → Option Nat) (bx : Tr (Option (List SV))) : Nat → Nat → Option Nat → List (List SV) → Prop
  | i, n + 1, nw, p :: ps => match bx.get i none with
    | some cs => forceL (nmW.nmsW f ow cs) fun cs => subC cs p ∧ postL f ow bx (i + 1) n nw ps
    | none => False
  | _, 0, _, [] => True
  | _, 0, nw, [p] => match nw with
    | some b => match bx.get b none with
      | some cs => forceL (nmW.nmsW f ow cs) fun cs => subC cs p
      | none => False
    | none => False
  | _, _, _, _ => False
/-- the rows' numbers in the handed variables, and their names behind the body -/
def ownTC (id : Nat) : List SV → Nat → List (Nat × Nat) → (List (Nat × Nat) → Prop) → Prop
  | [], _, tb, k => k tb
  | x :: r, j, tb, k => match x with
    | .own _ _ _ _ _ m => ownTC id r (Nat.succ j) (tb ++ [(m, Nat.add id (Nat.mul 100000 (Nat.succ j)))]) k
    | _ => ownTC id r (Nat.succ j) tb k
def ownTK (bx : Tr (Option (List SV))) (id : Nat) : Nat → Nat → Nat → List (Nat × Nat) → (List (Nat × Nat) → Prop) → Prop
  | 0, _, _, tb, k => k tb
  | f + 1, i, p, tb, k => match bx.get i none with
    | none => ownTK bx id f (Nat.succ i) (Nat.add p 64) tb k
    | some cs => ownTC id cs p tb fun tb => ownTK bx id f (Nat.succ i) (Nat.add p 64) tb k
def lookO (id : Nat) : List (Nat × Nat) → Nat → Option Nat
  | [], _ => some id
  | (a, b) :: r, m => match Nat.beq a m with
    | true => some b
    | false => lookO id r m
theorem ownTC_elim {id : Nat} : ∀ {l : List SV} {j : Nat} {tb : List (Nat × Nat)} {k : List (Nat × Nat) → Prop}, ownTC id l j tb k → ∃ tb, k tb
  | [], _, tb, _, h => ⟨tb, h⟩
  | x :: r, j, tb, k, h => by
    unfold ownTC at h
    split at h <;> exact ownTC_elim h
theorem ownTK_elim {bx : Tr (Option (List SV))} {id : Nat} : ∀ {f i p : Nat} {tb : List (Nat × Nat)} {k : List (Nat × Nat) → Prop}, ownTK bx id f i p tb k → ∃ tb, k tb
  | 0, _, _, tb, _, h => ⟨tb, h⟩
  | f + 1, i, p, tb, k, h => by
    unfold ownTK at h
    split at h
    · exact ownTK_elim h
    · obtain ⟨tb, h⟩ := ownTC_elim h
      exact ownTK_elim h
/-- what such a body must come to -/
def PostB (E : Env) (rs : List ResultVar) (id n : Nat) (post : List (List SV)) (r : SV) (e : Ex) (s : ASt) : Prop := match e with
  | .exit _ => False
  | _ => resK E rs s fun l => ownTK s.bx id n 1000 0 [] fun tb => (fun nw => force (nmW (outN nw (1000 + n)) (lookO id tb) (res1 l)) fun v => Sub v r ∧ postL (outN nw (1000 + n)) (lookO id tb) s.bx 1000 n nw post) (madeP (dropN n post) (boxesOf (res1 l) []))
theorem madeN_lt : ∀ {l : List Nat} {b : Nat}, madeN l = some b → b < 1000
  | x :: r, b, h => by
    unfold madeN at h
    cases hx : Nat.blt x 1000 with
    | true => rw [hx] at h; cases h; simpa [Nat.blt_eq] using hx
    | false => rw [hx] at h; exact madeN_lt h
theorem dropN_nil {α : Type _} : ∀ (n : Nat) (l : List α), l.length ≤ n → dropN n l = []
  | 0, [], _ => rfl
  | 0, _ :: _, h => by simp at h
  | n + 1, [], _ => rfl
  | n + 1, x :: xs, h => dropN_nil n xs (by simpa using h)
theorem madeP_spec {α : Type _} {n : Nat} {post : List α} {l : List Nat} {b : Nat} (h : madeP (dropN n post) l = some b) : b < 1000 ∧ n < post.length := by
  unfold madeP at h
  cases e : dropN n post with
  | nil => rw [e] at h; cases h
  | cons x xs =>
    rw [e] at h
    refine ⟨madeN_lt h, ?_⟩
    by_cases c : n < post.length
    · exact c
    · rw [dropN_nil n post (by omega)] at e; cases e
theorem outN_spec {nw : Option Nat} {n b b' : Nat} (h : outN nw n b = some b') : (1000 ≤ b ∧ b < n ∧ b' = b) ∨ (b < 1000 ∧ nw = some b ∧ b' = n) := by
  unfold outN at h
  cases hb : Nat.blt b 1000 with
  | false =>
    rw [hb] at h
    simp only at h
    cases hn : Nat.blt b n with
    | false => rw [hn] at h; cases h
    | true =>
    rw [hn] at h
    cases h
    refine .inl ⟨?_, by simpa [Nat.blt_eq] using hn, rfl⟩
    rcases Nat.lt_or_ge b 1000 with c | c
    · rw [show Nat.blt b 1000 = true from by simpa [Nat.blt_eq] using c] at hb; cases hb
    · exact c
  | true =>
    rw [hb] at h
    cases nw with
    | none => cases h
    | some c =>
      simp only at h
      cases e : Nat.beq b c with
      | false => rw [e] at h; cases h
      | true =>
        rw [e] at h
        cases h
        exact .inr ⟨by simpa [Nat.blt_eq] using hb, by rw [Nat.eq_of_beq_eq_true e], rfl⟩
theorem postL_spec {f ow : Nat → Option Nat} {bx : Tr (Option (List SV))} {nw : Option Nat} : ∀ {n i : Nat} {post : List (List SV)}, postL f ow bx i n nw post →
    n ≤ post.length ∧ post.length ≤ n + 1 ∧ (∀ q p, q < n → post[q]? = some p → ∃ cs, bx.get (i + q) none = some cs ∧ subC (nmW.nmsW f ow cs) p) ∧
      (post.length = n + 1 → ∃ b cs p, nw = some b ∧ bx.get b none = some cs ∧ post[n]? = some p ∧ subC (nmW.nmsW f ow cs) p)
  | n + 1, i, [], h => h.elim
  | n + 1, i, p :: ps, h => by
    unfold postL at h
    cases hb : bx.get i none with
    | none => rw [hb] at h; exact h.elim
    | some cs =>
      rw [hb] at h
      simp only [forceL_eq] at h
      obtain ⟨h1, h2⟩ := h
      obtain ⟨a1, a2, a3, a4⟩ := postL_spec h2
      refine ⟨by simp; omega, by simp; omega, fun q p' hq e => ?_, fun e => ?_⟩
      · cases q with
        | zero => simp at e; subst e; exact ⟨cs, hb, h1⟩
        | succ q =>
          obtain ⟨cs', b1, b2⟩ := a3 q p' (by omega) (by simpa using e)
          exact ⟨cs', by rw [show i + (q + 1) = i + 1 + q by omega]; exact b1, b2⟩
      · obtain ⟨b, cs', p', b1, b2, b3, b4⟩ := a4 (by simpa using e)
        exact ⟨b, cs', p', b1, b2, by simpa using b3, b4⟩
  | 0, i, [], _ => ⟨Nat.le_refl _, by simp, fun q p hq => by omega, fun e => by simp at e⟩
  | 0, i, [p], h => by
    refine ⟨by simp, by simp, fun q p hq => by omega, fun _ => ?_⟩
    unfold postL at h
    cases nw with
    | none => exact h.elim
    | some b =>
      simp only at h
      cases hb : bx.get b none with
      | none => rw [hb] at h; exact h.elim
      | some cs => rw [hb] at h; simp only [forceL_eq] at h; exact ⟨b, cs, p, rfl, hb, rfl, h⟩
  | 0, i, _ :: _ :: _, h => h.elim
theorem ctrB_of_ax2 (hm : P.follows .mixedOrders = true) {g : Nat} {fn : Func} {body : Code} (c : CtrB) (hf : P.funcs[g]? = some fn) (hname : (fn.name == "runtime.NumGoroutine") = false) (hb : fn.body = some body)
    (hlen : ∀ x, c.dom x → (c.enc x).length ≤ fn.ntmps ∧ (c.pre x).length ≤ 100)
    (h : ∀ (x : c.A) (id : Nat), c.dom x → ∃ E, (EnvOk P E ∧ ∀ w, c.gl w → E.gl w) ∧ ax E body (stB (c.enc x) (c.pre x) fn.ntmps) (PostB E fn.results.toList id (c.pre x).length (c.post x id) (c.res x id))) : CtrBSound P g c := by
  refine ⟨⟨fn, hf, hname, by rw [hb]; rfl⟩, ?_⟩
  intro x H β T0 rb w vs id hd hsep hW hgl hsz hG
  obtain ⟨E, ⟨hE, hEg⟩, hax⟩ := h x id hd
  haveI : GlOk E H w := ⟨fun w' hs hsh => hEg w' (hgl w' hs hsh)⟩
  obtain ⟨hlen, hpre⟩ := hlen x hd
  refine calls_of_wp hf hb ?_
  have hnone : ∀ id, (Tr.mk (none : Option (List SV)) fn.ntmps fn.ntmps).get id none = none := by
    intro id
    rw [mk_get _ _ _ _ _ (Nat.le_refl _)]
    split <;> rfl
  have hW0 : W (mB β rb) w H H β T0 (stB (c.enc x) (c.pre x) fn.ntmps).bx w := hW.congr fun i => by
    show (treeOf 1000 (c.pre x) (Tr.mk none fn.ntmps fn.ntmps)).get i none = _
    rw [treeOf_get _ _ _ _ (by omega), treeOf_get _ _ _ _ (by omega), hnone]
    rfl
  have hr : Rel (mB β rb) w H (stB (c.enc x) (c.pre x) fn.ntmps) { tmps := vs ++ Array.replicate (fn.ntmps - vs.size) undef, defers := [] } w := by
    refine ⟨H, β, T0, ⟨?_, rfl, ?_⟩, hW0⟩
    · intro j hj
      simp only [stB, fill_has, mk_has _ _ _ _ (Nat.le_refl _), decide_eq_true_eq] at hj
      simp
      omega
    intro j
    show G H β T0 (((Tr.mk (.val undef) fn.ntmps fn.ntmps).fill 0 (c.enc x)).get j .junk) _
    rw [fill_get _ _ _ _ _ (fun q hq => by rw [mk_has _ _ _ _ (Nat.le_refl _)]; simp; omega)]
    by_cases hl : j < (c.enc x).length
    · rw [if_pos (by omega), Nat.sub_zero]
      have e2 : (vs ++ Array.replicate (fn.ntmps - vs.size) undef).getD j undef = vs.getD j undef := by
        simp [Array.getD_eq_getD_getElem?, Array.getElem?_append, show j < vs.size by omega]
      rw [e2]
      exact hG j hl
    · rw [if_neg (by omega), mk_get _ _ _ _ _ (Nat.le_refl _)]
      by_cases hn : j < fn.ntmps
      · rw [if_pos hn]
        have e2 : (vs ++ Array.replicate (fn.ntmps - vs.size) undef).getD j undef = undef := by
          have h2 : j - vs.size < fn.ntmps - vs.size := by omega
          simp [Array.getD_eq_getD_getElem?, Array.getElem?_append, show ¬ j < vs.size by omega, h2]
        rw [e2]
        exact .val _
      · rw [if_neg hn]; exact .junk _
  refine ax_sound hE hm body hax hr ?_
  intro e s' a' w' hp hr'
  have main : resK E fn.results.toList s' (fun l => ownTK s'.bx id (c.pre x).length 1000 0 [] fun tb => (fun nw => force (nmW (outN nw (1000 + (c.pre x).length)) (lookO id tb) (res1 l)) fun v => Sub v (c.res x id) ∧ postL (outN nw (1000 + (c.pre x).length)) (lookO id tb) s'.bx 1000 (c.pre x).length nw (c.post x id)) (madeP (dropN (c.pre x).length (c.post x id)) (boxesOf (res1 l) []))) →
      a'.defers = [] ∧ ∃ v, (results fn a'.tmps).run P w' = .ok v w' ∧ ∃ v' H' β' T', Ending.returned v = .returned v' ∧ W (mB (newM β β' (1000 + (c.pre x).length)) rb) w H H' β' T' (treeOf 1000 (c.post x id) .nil) w' ∧ (∀ i k, β i = some k → β' i = some k) ∧
      (∀ i k, β i = none → β' i = some k → w.heap.size ≤ k) ∧ (∀ i, 1000 ≤ i → i < 1000 + (c.pre x).length → β i = none → β' i = none) ∧ G H' β' T' (c.res x id) v' := by
    intro hp
    obtain ⟨H', βf, T, hf', hw'⟩ := hr'
    obtain ⟨l, v, h1, h3, h4⟩ := results_G hE hf' hw' fn _ hp
    obtain ⟨tb, h1⟩ := ownTK_elim h1
    simp only [force_eq] at h1
    generalize hnw : madeP (dropN (c.pre x).length (c.post x id)) (boxesOf (res1 l) []) = nw at h1
    generalize lookO id tb = ow at h1
    obtain ⟨h1, h2⟩ := h1
    obtain ⟨p1, p2, p3, p4⟩ := postL_spec h2
    have hlt : ∀ b, nw = some b → b < 1000 ∧ (c.post x id).length = (c.pre x).length + 1 := fun b e => by
      obtain ⟨a1, a2⟩ := madeP_spec (hnw.trans e)
      exact ⟨a1, by omega⟩
    clear hnw
    generalize hn : (c.pre x).length = n at *
    have hpre1 : ∀ i, (treeOf 1000 (c.pre x) .nil).get i none = if 1000 ≤ i ∧ i < 1000 + n then at' ((c.pre x).map some) (i - 1000) none else none := fun i => by
      rw [treeOf_get _ _ _ _ (by omega), hn]; rfl
    have hpost1 : ∀ i p, (treeOf 1000 (c.post x id) .nil).get i none = some p → 1000 ≤ i ∧ (c.post x id)[i - 1000]? = some p := by
      intro i p e
      rw [treeOf_get _ _ _ _ (by omega)] at e
      by_cases cc : 1000 ≤ i ∧ i < 1000 + (c.post x id).length
      · rw [if_pos cc] at e
        have hq : i - 1000 < (c.post x id).length := by omega
        rw [at'_get _ _ _ (by simpa using hq), List.getElem_map] at e
        exact ⟨cc.1, by rw [List.getElem?_eq_getElem hq]; exact e⟩
      · rw [if_neg cc] at e; cases e
    have hpost2 : ∀ i p, 1000 ≤ i → (c.post x id)[i - 1000]? = some p → (treeOf 1000 (c.post x id) .nil).get i none = some p := by
      intro i p hi e
      have hq := (List.getElem?_eq_some_iff.1 e).1
      rw [treeOf_get _ _ _ _ (by omega), if_pos (by omega), at'_get _ _ _ (by simpa using hq), List.getElem_map]
      rw [List.getElem?_eq_getElem hq] at e
      exact e
    -- the variables handed in
    have hβ0 : ∀ i k, β i = some k → 1000 ≤ i ∧ i < 1000 + n := by
      intro i k e
      obtain ⟨-, cs, e2⟩ := hW.bβ i k e
      rw [hpre1] at e2
      by_cases cc : 1000 ≤ i ∧ i < 1000 + n
      · exact cc
      · rw [if_neg cc] at e2; cases e2
    have hβ1 : ∀ i k, 1000 ≤ i → i < 1000 + n → βf i = some k → β i = some k := by
      intro i k h1 h2 e
      cases hb : β i with
      | none => rw [hw'.out i h1 (by rw [mB_lo (by omega)]; exact hb)] at e; cases e
      | some k0 => rw [(hw'.hand i k0 (by rw [mB_lo (by omega)]; exact hb)).2 k e]
    let β' : BM := fun i => if 1000 ≤ i ∧ i < 1000 + n then β i else if i = 1000 + n ∧ (c.post x id).length = n + 1 then (nw.bind βf) else none
    have hβ' : ∀ i k, β' i = some k → (1000 ≤ i ∧ i < 1000 + n ∧ β i = some k) ∨ (i = 1000 + n ∧ (c.post x id).length = n + 1 ∧ ∃ b, nw = some b ∧ βf b = some k) := by
      intro i k e
      by_cases c1 : 1000 ≤ i ∧ i < 1000 + n
      · have e2 : β' i = β i := if_pos c1
        exact .inl ⟨c1.1, c1.2, by rw [← e2]; exact e⟩
      · have e2 : β' i = if i = 1000 + n ∧ (c.post x id).length = n + 1 then (nw.bind βf) else none := by show (if _ then _ else _) = _; rw [if_neg c1]
        rw [e2] at e
        by_cases c2 : i = 1000 + n ∧ (c.post x id).length = n + 1
        · rw [if_pos c2] at e
          cases hnw : nw with
          | none => rw [hnw] at e; cases e
          | some b => rw [hnw] at e; exact .inr ⟨c2.1, c2.2, b, rfl, e⟩
        · rw [if_neg c2] at e; cases e
    have hβ'1 : ∀ i, 1000 ≤ i → i < 1000 + n → β' i = β i := fun i a1 a2 => if_pos ⟨a1, a2⟩
    have hβ'2 : ∀ b, nw = some b → (c.post x id).length = n + 1 → β' (1000 + n) = βf b := by
      intro b e e2
      have c1 : ¬ (1000 ≤ 1000 + n ∧ 1000 + n < 1000 + n) := by omega
      have : β' (1000 + n) = if 1000 + n = 1000 + n ∧ (c.post x id).length = n + 1 then (nw.bind βf) else none := by show (if _ then _ else _) = _; rw [if_neg c1]
      rw [this, if_pos ⟨rfl, e2⟩, e]; rfl
    have hnewf : ∀ b k, nw = some b → βf b = some k → w.heap.size ≤ k := fun b k e1 e2 => (hw'.mine _ _ e2).2 (hlt b e1).1
    have holdf : ∀ i k, β i = some k → k < w.heap.size := fun i k e => (hW.bβ i k e).1
    have hM : ∀ i k, newM β β' (1000 + n) i = some k → β' i = some k := by
      intro i k e
      unfold newM at e
      by_cases c : i < 1000 + n
      · rw [if_pos c] at e; rw [hβ'1 i (hβ0 i k e).1 c]; exact e
      · rw [if_neg c] at e; exact e
    have hM2 : ∀ i k, β' i = some k → newM β β' (1000 + n) i = some k := by
      intro i k e
      unfold newM
      by_cases c : i < 1000 + n
      · rw [if_pos c]
        rcases hβ' i k e with ⟨c1, c2, c3⟩ | ⟨rfl, _⟩
        · exact c3
        · omega
      · rw [if_neg c]; exact e
    have hM2m : ∀ i k, β' i = some k → mB (newM β β' (1000 + n)) rb i = some k := fun i k e => by
      rw [mB_lo (by rcases hβ' i k e with ⟨_, _, _⟩ | ⟨_, _⟩ <;> omega)]; exact hM2 i k e
    have hMm : ∀ i k, mB (newM β β' (1000 + n)) rb i = some k → β' i = some k ∨ (10000 ≤ i ∧ rb i = some k) := fun i k e => by
      rcases mB_some e with ⟨_, e⟩ | ⟨h, e⟩
      · exact .inl (hM i k e)
      · exact .inr ⟨h, e⟩
    have hroom : ∀ b, Room (mB β rb) w b → Room (mB (newM β β' (1000 + n)) rb) w b := fun b h => h.imp (fun ⟨i, h1, h2⟩ => ⟨i, h1, by rw [mB_hi h1] at h2 ⊢; exact h2⟩) (fun h => h)
    have hup : ∀ b b' k, outN nw (1000 + n) b = some b' → βf b = some k → β' b' = some k := by
      intro b b' k e1 e2
      rcases outN_spec e1 with ⟨c1, c2, rfl⟩ | ⟨c1, c2, rfl⟩
      · rw [hβ'1 b' c1 c2]; exact hβ1 b' k c1 c2 e2
      · rw [hβ'2 b c2 (hlt b c2).2]; exact e2
    have hT2 : ∀ i i', ow i = some i' → ∀ b q, T b q = some i → (fun b o => (T b o).bind ow : TM) b q = some i' := by
      intro i i' e b q e2
      show (T b q).bind _ = _
      rw [e2]; exact e
    refine ⟨hf'.defers, v, h4, v, H', β', (fun b o => (T b o).bind ow), rfl, ?_, ?_, ?_, ?_, (nmW_G (ow := ow) hup hT2 h3).sub h1⟩
    · refine ⟨?_, ?_, ?_, ?_, ?_, ?_, ?_, ?_, ?_, ?_, ⟨hw'.keep.os, hw'.keep.tape, hw'.keep.output, hw'.keep.size, fun k hk hno => hw'.keep.block k hk fun ⟨i, e⟩ => hno (by
      rcases mB_some e with ⟨_, e⟩ | ⟨h10, e⟩
      · exact ⟨i, hM2m i k (by rw [hβ'1 i (hβ0 i k e).1 (hβ0 i k e).2]; exact e)⟩
      · exact ⟨i, by rw [mB_hi h10]; exact e⟩), hw'.keep.shape⟩, hw'.ext, fun b o h => (hw'.fresh b o h).imp (fun ⟨i, h1, h2⟩ => ⟨i, h1, by rw [mB_hi h1] at h2 ⊢; exact h2⟩) (fun h => h), fun k e => ?_, fun X e => ?_⟩
      · intro b o u e
        obtain ⟨a1, a2⟩ := hw'.lies b o u e
        exact ⟨a1, by show (T b o).bind ow = none; rw [a2]; rfl⟩
      · intro i p e hl
        obtain ⟨hi, e2⟩ := hpost1 i p e
        have hil := (List.getElem?_eq_some_iff.1 e2).1
        have key : ∀ (b : Nat) (cs : List SV) (k : Nat), s'.bx.get b none = some cs → subC (nmW.nmsW (outN nw (1000 + n)) ow cs) p → (∀ k, βf b = some k → β' i = some k) →
            ∃ k, β' i = some k ∧ Mine (mB (newM β β' (1000 + n)) rb) w k ∧ ∀ j, j < xlen p → H' k j = none ∧ (fun b o => (T b o).bind ow : TM) k j = none ∧ w'.frozen? ⟨k, j, none⟩ = false ∧ ∃ v, w'.cell? ⟨k, j, none⟩ = some v ∧ G H' β' (fun b o => (T b o).bind ow) (xat p j) v := by
          intro b cs _ b1 b2 b3
          obtain ⟨c1, c2, -⟩ := subC_spec b2
          rw [xlen_nm] at c1
          obtain ⟨k, a1, a2, a3⟩ := hw'.box b cs b1 (by omega)
          refine ⟨k, b3 k a1, .inl ⟨i, hM2m _ _ (b3 k a1)⟩, fun j hj => ?_⟩
          obtain ⟨d1, d2, d3, u, d4, d5⟩ := a3 j (by omega)
          refine ⟨d1, by show (T k j).bind ow = none; rw [d2]; rfl, d3, u, d4, ?_⟩
          exact c2 j hj (xat_nm (ow := ow) hup hT2 (fun X sz c d l ee => hw'.many _ _ _ _ _ _ (by rw [b1, ee])) (by omega) d5)
        by_cases hlast : i < 1000 + n
        · obtain ⟨cs, b1, b2⟩ := p3 (i - 1000) p (by omega) e2
          rw [show 1000 + (i - 1000) = i by omega] at b1
          exact key i cs 0 b1 b2 fun k hk => by rw [hβ'1 i hi hlast]; exact hβ1 i k hi hlast hk
        · have hlen1 : (c.post x id).length = n + 1 := by omega
          obtain ⟨b, cs, p', b0, b1, b2, b3⟩ := p4 hlen1
          obtain rfl : i = 1000 + n := by omega
          rw [show 1000 + n - 1000 = n by omega, b2] at e2
          cases e2
          exact key b cs 0 b1 b3 fun k hk => by rw [hβ'2 b b0 hlen1]; exact hk
      · intro i k e
        rcases hβ' i k e with ⟨c1, c2, c3⟩ | ⟨rfl, c2, b, c3, c4⟩
        · refine ⟨Nat.lt_of_lt_of_le (holdf _ _ c3) hw'.keep.size, (c.post x id)[i - 1000]'(by omega), hpost2 i _ c1 (List.getElem?_eq_getElem (by omega))⟩
        · refine ⟨(hw'.bβ _ _ c4).1, (c.post x id)[n]'(by omega), hpost2 _ _ (by omega) ?_⟩
          rw [show 1000 + n - 1000 = n by omega]
          exact List.getElem?_eq_getElem (by omega)
      · intro i j k e1 e2
        rcases hβ' i k e1 with ⟨c1, c2, c3⟩ | ⟨rfl, c2, b, c3, c4⟩ <;> rcases hβ' j k e2 with ⟨d1, d2, d3⟩ | ⟨rfl, d2, b', d3, d4⟩
        · exact hW.inj _ _ _ c3 d3
        · have := hnewf _ _ d3 d4; have := holdf _ _ c3; omega
        · have := hnewf _ _ c3 c4; have := holdf _ _ d3; omega
        · rfl
      · intro b o i e
        replace e : (T b o).bind ow = some i := e
        cases ht : T b o with
        | none => rw [ht] at e; cases e
        | some i' => exact ⟨hroom b (hw'.tail b o i' ht).1, (hw'.tail b o i' ht).2⟩
      · intro b o i e j c
        replace e : (T b o).bind ow = some i := e
        cases ht : T b o with
        | none => rw [ht] at e; cases e
        | some i' =>
          rcases hβ' j b c with ⟨_, _, c3⟩ | ⟨_, _, b', _, c4⟩
          · rcases (hw'.tail b o i' ht).1 with ⟨q, h1, h2⟩ | h2
            · rw [mB_hi h1] at h2; exact hsep _ _ _ c3 h2
            · have := holdf _ _ c3; omega
          · exact hw'.sep _ _ _ ht _ c4
      · intro i k e
        rcases hMm i k e with e' | ⟨h10, e'⟩
        case inr => exact ⟨by omega, fun k' e2 => by rcases hβ' i k' e2 with ⟨_, _, _⟩ | ⟨_, _⟩ <;> omega⟩
        refine ⟨?_, fun k' e2 => by rw [e'] at e2; cases e2; rfl⟩
        rcases hβ' i k e' with ⟨c1, _⟩ | ⟨rfl, _⟩ <;> omega
      · intro i X sz cc dd l e
        obtain ⟨hi, e2⟩ := hpost1 i _ e
        have hil := (List.getElem?_eq_some_iff.1 e2).1
        by_cases hlast : i < 1000 + n
        · obtain ⟨cs, b1, b2⟩ := p3 (i - 1000) _ (by omega) e2
          exact hw'.many _ _ _ _ _ _ (by rw [b1, many_nm ((subC_spec b2).2.2 _ _ _ _ _ rfl)])
        · have hlen1 : (c.post x id).length = n + 1 := by omega
          obtain ⟨b, cs, p', b0, b1, b2, b3⟩ := p4 hlen1
          obtain rfl : i = 1000 + n := by omega
          rw [show 1000 + n - 1000 = n by omega, b2] at e2
          cases e2
          exact hw'.many _ _ _ _ _ _ (by rw [b1, many_nm ((subC_spec b3).2.2 _ _ _ _ _ rfl)])
      · intro i k e
        refine ⟨.inl ⟨i, hM2m _ _ e⟩, fun hi => ?_⟩
        rcases hβ' i k e with ⟨c1, _⟩ | ⟨rfl, _⟩ <;> omega
      · intro i h1 h2
        cases hb : β' i with
        | none => rfl
        | some k => rw [hM2m i k hb] at h2; cases h2
      · have e2 : ∃ i, β' i = some k := by obtain ⟨i, e | ⟨h10, e, _⟩⟩ := e; exact ⟨i, e⟩; exact (hMm i k e).elim (fun e => ⟨i, e⟩) (fun e => by omega)
        obtain ⟨i, e2⟩ := e2
        rcases hβ' i k e2 with ⟨c1, c2, c3⟩ | ⟨rfl, c2, b, c3, c4⟩
        · exact hw'.edge k ⟨i, .inr ⟨by omega, by rw [mB_lo (by omega)]; exact c3, holdf _ _ c3, fun j hj c => hsep _ _ _ c3 ((mB_hi (β := β) (rb := rb) hj) ▸ c)⟩⟩
        · exact hw'.edge k ⟨b, .inl c4⟩
      · obtain ⟨hi, e2⟩ := hpost1 9999 _ e
        have hil := (List.getElem?_eq_some_iff.1 e2).1
        omega
    · intro i k e
      obtain ⟨a1, a2⟩ := hβ0 i k e
      rw [hβ'1 i a1 a2]; exact e
    · intro i k e1 e2
      rcases hβ' i k e2 with ⟨c1, c2, c3⟩ | ⟨rfl, c2, b, c3, c4⟩
      · rw [e1] at c3; cases c3
      · exact hnewf b k c3 c4
    · intro i h1 h2 e
      rw [hβ'1 i h1 h2]; exact e
  cases e with
  | normal => exact main hp
  | exit n => exact hp.elim
  | ret => exact main hp
end
end Go.Proofs.Yteccinlmblijfaa.Ax
/- Tables: types held against the program, contracts by number; a law out of its contract. -/
set_option linter.unusedVariables false
set_option linter.unusedSimpArgs false
namespace Go.Proofs.Yteccinlmblijfaa.Ax
open Go Go.RowKit

/-! ### 1. Types -/
def valEqB : Value → Value → Bool
  | .int k a, .int k' b => ikEq k k' && a == b
  | .bool a, .bool b => a == b
  | .string a, .string b => a.data == b.data
  | .slice none a b, .slice none a' b' => a == a' && b == b'
  | .pointer none, .pointer none => true
  | .map none, .map none => true
  | .nilFunc, .nilFunc => true
  | .nilIface, .nilIface => true
  | _, _ => false
theorem valEqB_eq : ∀ {a b : Value}, valEqB a b = true → a = b
  | .int k a, .int k' b, h => by
    simp only [valEqB, Bool.and_eq_true, beq_iff_eq] at h
    rw [ikEq_eq h.1, h.2]
  | .bool a, .bool b, h => by simp only [valEqB, beq_iff_eq] at h; rw [h]
  | .string a, .string b, h => by
    simp only [valEqB, beq_iff_eq] at h
    congr 1
    exact ByteArray.ext h
  | .slice none a b, .slice none a' b', h => by
    simp only [valEqB, Bool.and_eq_true, beq_iff_eq] at h
    rw [h.1, h.2]
  | .pointer none, .pointer none, _ => rfl
  | .map none, .map none, _ => rfl
  | .nilFunc, .nilFunc, _ => rfl
  | .nilIface, .nilIface, _ => rfl
def valsEqB : List Value → List Value → Bool
  | [], [] => true
  | x :: xs, y :: ys => valEqB x y && valsEqB xs ys
  | _, _ => false
theorem valsEqB_eq : ∀ {a b : List Value}, valsEqB a b = true → a = b
  | [], [], _ => rfl
  | x :: xs, y :: ys, h => by
    simp only [valsEqB, Bool.and_eq_true] at h
    rw [valEqB_eq h.1, valsEqB_eq h.2]
def fldsB (P : Program) : List Go.Field → List (Nat × Nat) → Bool
  | [], [] => true
  | f :: fs, (q, u) :: r => f.offset == q && f.type == u && (match P.info? u with | some i => i.size != 0 | none => false) && fldsB P fs r
  | _, _ => false
theorem fldsB_length {P : Program} : ∀ {fs : List Go.Field} {l : List (Nat × Nat)}, fldsB P fs l = true → fs.length = l.length
  | [], [], _ => rfl
  | f :: fs, (q, u) :: r, h => by
    simp only [fldsB, Bool.and_eq_true] at h
    simp [fldsB_length h.2]
theorem fldsB_at {P : Program} : ∀ {fs : List Go.Field} {l : List (Nat × Nat)}, fldsB P fs l = true → ∀ (f q u : Nat), l[f]? = some (q, u) →
    ∃ fd : Go.Field, fs[f]? = some fd ∧ fd.offset = q ∧ fd.type = u ∧ ∃ i, P.info? u = some i ∧ i.size ≠ 0
  | [], [], _, f, q, u, e => by simp at e
  | f :: fs, (q, u) :: r, h, j, q', u', e => by
    simp only [fldsB, Bool.and_eq_true, beq_iff_eq] at h
    obtain ⟨⟨⟨h1, h2⟩, h3⟩, h4⟩ := h
    cases j with
    | zero =>
      simp at e
      obtain ⟨rfl, rfl⟩ := e
      refine ⟨f, rfl, h1, h2, ?_⟩
      cases hi : P.info? u with
      | none => rw [hi] at h3; simp at h3
      | some i => rw [hi] at h3; exact ⟨i, rfl, by simpa using h3⟩
    | succ j => simpa using fldsB_at h4 j q' u' (by simpa using e)
def tyB (P : Program) (t : Nat) (ti : TI) : Bool := match P.underlying t, P.info? t with
  | some d, some i =>
    isAggD d == ti.agg && (!ti.slice || (match d with | .slice e => e == ti.elem | _ => false)) && (!ti.str || (match d with | .string => true | _ => false)) &&
    (!ti.bool || (match d with | .bool => true | _ => false)) && (ti.flds.isEmpty || (match d with | .struct fs => fldsB P fs.toList ti.flds | _ => false)) &&
    (!ti.iface || (match d with | .interface _ => true | _ => false)) && (match ti.int with | some k => (match d with | .int k' => ikEq k k' | _ => false) | none => true) && (ti.agg || Nat.blt 0 ti.size) && i.size == ti.size && i.bytes == ti.bytes && (ti.zero.isEmpty || (match i.zero with | some z => valsEqB z.cells.toList ti.zero | none => false))
  | _, _ => false
theorem tyB_ok {P : Program} {t : Nat} {ti : TI} (h : tyB P t ti = true) : TOk P t ti := by
  unfold tyB at h
  cases hd : P.underlying t with
  | none => rw [hd] at h; simp at h
  | some d =>
    cases hi : P.info? t with
    | none => rw [hd, hi] at h; simp at h
    | some i =>
      rw [hd, hi] at h
      simp only [Bool.and_eq_true] at h
      obtain ⟨⟨⟨⟨⟨⟨⟨⟨⟨⟨h1, h2⟩, h3⟩, h4⟩, h5⟩, h11⟩, h10⟩, h6⟩, h7⟩, h8⟩, h9⟩ := h
      refine ⟨⟨d, hd, by simpa using h1, ?_, ?_, ?_, ?_⟩, ?_, ?_, ⟨i, hi, by simpa using h7, by simpa using h8, ?_⟩, ?_, ?_⟩
      · intro hs
        rw [hs] at h2
        cases d <;> simp at h2
        rw [h2]
      · intro hs
        rw [hs] at h3
        cases d <;> simp at h3
        rfl
      · intro hs
        rw [hs] at h4
        cases d <;> simp at h4
        rfl
      · intro f q u e
        cases hfl : ti.flds with
        | nil => rw [hfl] at e; simp at e
        | cons a r =>
          rw [hfl] at h5
          cases d <;> simp at h5
          rename_i fs
          rw [← hfl] at h5
          obtain ⟨fd, h10, h11, h12, h13⟩ := fldsB_at h5 f q u e
          exact ⟨fs, fd, rfl, by rw [← Array.getElem?_toList]; exact h10, h11, h12, h13⟩
      · intro ha
        rw [ha] at h6
        simpa [Nat.blt_eq] using h6
      · intro hfl
        rw [show ti.flds.isEmpty = false from by simpa using hfl] at h5
        cases d <;> simp at h5
        rename_i fs
        exact ⟨fs, hd, by simpa using fldsB_length h5⟩
      · intro hz
        cases hzz : i.zero with
        | none =>
          rw [hzz] at h9
          cases hzl : ti.zero with
          | nil => exact absurd hzl hz
          | cons a r => rw [hzl] at h9; simp at h9
        | some z =>
          rw [hzz] at h9
          refine ⟨z, rfl, ?_⟩
          cases hzl : ti.zero with
          | nil => exact absurd hzl hz
          | cons a r => rw [hzl] at h9; exact valsEqB_eq (by simpa using h9)
      · intro k hk
        rw [hk] at h10
        cases d <;> simp at h10
        rw [hd, ikEq_eq h10]
      · intro hs
        rw [hs] at h11
        cases d <;> simp at h11
        exact ⟨_, hd⟩
def tysB (P : Program) : List (Nat × TI) → Bool
  | [] => true
  | (t, ti) :: r => tyB P t ti && tysB P r
theorem tysB_ok {P : Program} : ∀ {l : List (Nat × TI)}, tysB P l = true → ∀ t ti, (t, ti) ∈ l → TOk P t ti
  | (t, ti) :: r, h, t', ti', hm => by
    simp only [tysB, Bool.and_eq_true] at h
    rcases List.mem_cons.1 hm with e | e
    · cases e; exact tyB_ok h.1
    · exact tysB_ok h.2 t' ti' e

/-! ### 2. Environments -/
def find {α : Type _} : List (Nat × α) → Nat → Option α
  | [], _ => none
  | (k, v) :: r, n => match Nat.beq k n with | true => some v | false => find r n
theorem find_mem {α : Type _} : ∀ {l : List (Nat × α)} {n : Nat} {v : α}, find l n = some v → (n, v) ∈ l
  | (k, u) :: r, n, v, h => by
    unfold find at h
    cases e : Nat.beq k n with
    | true => rw [e] at h; simp only [Option.some.injEq] at h; rw [← h, Nat.eq_of_beq_eq_true e]; exact List.mem_cons_self
    | false => rw [e] at h; exact List.mem_cons_of_mem _ (find_mem h)
def env (ty : List (Nat × TI)) (eqs : List (Nat × EqC)) (cs : List (Nat × Ctr)) : Env := { ty := ty, ctr := find cs, eqs := find eqs }
def AllC (P : Program) : List (Nat × Ctr) → Prop
  | [] => True
  | (g, c) :: r => CtrSound P g c ∧ AllC P r
def AllE (P : Program) : List (Nat × EqC) → Prop
  | [] => True
  | (g, c) :: r => EqSound P g c ∧ AllE P r
theorem AllC_at {P : Program} : ∀ {l : List (Nat × Ctr)}, AllC P l → ∀ g c, (g, c) ∈ l → CtrSound P g c
  | (g, c) :: r, h, g', c', hm => by
    rcases List.mem_cons.1 hm with e | e
    · cases e; exact h.1
    · exact AllC_at h.2 g' c' e
theorem AllE_at {P : Program} : ∀ {l : List (Nat × EqC)}, AllE P l → ∀ g c, (g, c) ∈ l → EqSound P g c
  | (g, c) :: r, h, g', c', hm => by
    rcases List.mem_cons.1 hm with e | e
    · cases e; exact h.1
    · exact AllE_at h.2 g' c' e
/-- what the callees ask of the package's variables is known -/
def AllG (gl : World → Prop) : List (Nat × Ctr) → Prop
  | [] => True
  | (_, c) :: r => (∀ w, gl w → c.gl w) ∧ AllG gl r
def AllGB (gl : World → Prop) : List (Nat × CtrB) → Prop
  | [] => True
  | (_, c) :: r => (∀ w, gl w → c.gl w) ∧ AllGB gl r
theorem AllG_at {gl : World → Prop} : ∀ {l : List (Nat × Ctr)}, AllG gl l → ∀ g c, (g, c) ∈ l → ∀ w, gl w → c.gl w
  | (g, c) :: r, h, g', c', hm => by
    rcases List.mem_cons.1 hm with e | e
    · cases e; exact h.1
    · exact AllG_at h.2 g' c' e
theorem AllGB_at {gl : World → Prop} : ∀ {l : List (Nat × CtrB)}, AllGB gl l → ∀ g c, (g, c) ∈ l → ∀ w, gl w → c.gl w
  | (g, c) :: r, h, g', c', hm => by
    rcases List.mem_cons.1 hm with e | e
    · cases e; exact h.1
    · exact AllGB_at h.2 g' c' e
theorem env_ok {P : Program} {ty : List (Nat × TI)} {eqs : List (Nat × EqC)} {cs : List (Nat × Ctr)} (ht : tysB P ty = true) (he : AllE P eqs) (hc : AllC P cs) (hg : AllG (fun _ => True) cs := by repeat (first | exact True.intro | refine ⟨fun _ _ => True.intro, ?_⟩)) : EnvOk P (env ty eqs cs) :=
  ⟨fun _ _ h => (by cases h), fun _ _ h => (by cases h), fun _ _ _ _ _ _ h => h.elim, fun t c h => AllE_at he t c (find_mem h), tysB_ok ht, fun g c h => AllC_at hc g c (find_mem h), fun _ _ h => (by cases h), fun g c h => AllG_at hg g c (find_mem h), fun _ _ h => (by cases h)⟩
def fsts {α : Type _} : List (Nat × α) → List Nat
  | [] => []
  | (k, _) :: r => k :: fsts r
def vecs : List Nat → List Nat → List Nat
  | [], l => l
  | d :: r, l => Nat.add 1000000 d :: vecs r l
/-- variables that no call changes: loads through the temporaries that got their addresses may change places with calls -/
def quiets : List Nat → List Nat → List Nat
  | [], l => l
  | d :: r, l => Nat.add 500000 d :: Nat.add 700000 d :: quiets r l
/-- regions ahead of which a state of one's own choice stands -/
def cuts : List Nat → List Nat → List Nat
  | [], l => l
  | d :: r, l => Nat.add 900000 d :: cuts r l
/-- with functions that change variables; vec: the temporaries that get rows that may be written, or calls that freeze; qu: quiet variables -/
def envB (ty : List (Nat × TI)) (eqs : List (Nat × EqC)) (cs : List (Nat × Ctr)) (bs : List (Nat × CtrB)) (vec : List Nat := []) (gl : World → Prop := fun _ => True) (qu : List Nat := []) (cut : List Nat := []) (sq : List Nat := []) : Env := { ty := ty, ctr := find cs, eqs := find eqs, ctrB := find bs, bs := cuts cut (quiets qu (vecs vec (sq ++ fsts bs))), gl := gl }
def AllB (P : Program) : List (Nat × CtrB) → Prop
  | [] => True
  | (g, c) :: r => CtrBSound P g c ∧ AllB P r
theorem AllB_at {P : Program} : ∀ {l : List (Nat × CtrB)}, AllB P l → ∀ g c, (g, c) ∈ l → CtrBSound P g c
  | (g, c) :: r, h, g', c', hm => by
    rcases List.mem_cons.1 hm with e | e
    · cases e; exact h.1
    · exact AllB_at h.2 g' c' e
theorem env_okB {P : Program} {ty : List (Nat × TI)} {eqs : List (Nat × EqC)} {cs : List (Nat × Ctr)} {bs : List (Nat × CtrB)} (ht : tysB P ty = true) (he : AllE P eqs) (hc : AllC P cs) (hb : AllB P bs) (vec : List Nat := []) (gl : World → Prop := fun _ => True) (qu : List Nat := []) (cut : List Nat := []) (sq : List Nat := [])
    (hg : AllG gl cs := by repeat (first | exact True.intro | refine ⟨fun _ h => (by first | exact True.intro | exact h | exact h.1 | exact h.2 | exact ⟨h.1.1, h.2⟩), ?_⟩)) (hgb : AllGB gl bs := by repeat (first | exact True.intro | refine ⟨fun _ h => (by first | exact True.intro | exact h | exact h.1 | exact h.2 | exact ⟨h.1.1, h.2⟩), ?_⟩)) : EnvOk P (envB ty eqs cs bs vec gl qu cut sq) :=
  ⟨fun _ _ h => (by cases h), fun _ _ h => (by cases h), fun _ _ _ _ _ _ h => h.elim, fun t c h => AllE_at he t c (find_mem h), tysB_ok ht, fun g c h => AllC_at hc g c (find_mem h), fun g c h => AllB_at hb g c (find_mem h), fun g c h => AllG_at hg g c (find_mem h), fun g c h => AllGB_at hgb g c (find_mem h)⟩

/-! ### 3. A law -/
def cellsH (w : World) : HM := fun b o => w.cell? ⟨b, o, none⟩
theorem law_of_ctr {P : Program} {g : Nat} {c : Ctr} (h : CtrSound P g c) (x : c.A) (hd : c.dom x) (ht : c.res x 0 = .tt) {vs : Array Value} {w : World}
    (hn : vs.size = (c.enc x).length) (hg : ∀ j, j < (c.enc x).length → G (cellsH w) noB noT (at' (c.enc x) j .junk) (vs.getD j undef)) (hgl : ∀ w', Sealed (cellsH w) w' → Shaped w w' → c.gl w' := by intro _ _ _; exact True.intro) :
    Calls P g vs w fun e w' => e = .returned (.bool true) ∧ Below w.heap.size w w' := by
  refine (h.2 x (cellsH w) w vs 0 hd (fun b o v e => e) hgl hn hg).mono ?_
  rintro e w' ⟨v, H', T', rfl, hb, -, -, -, -, hv, -⟩
  rw [ht] at hv
  cases hv
  exact ⟨rfl, hb⟩
abbrev I (n : Int) : SV := .val (.int .i64 n)
abbrev S (s : ByteArray) : SV := .val (.string s)
abbrev B (b : Bool) : SV := .val (.bool b)
end Go.Proofs.Yteccinlmblijfaa.Ax
/- Arguments: from what a statement reads to the logic's values. -/
set_option linter.unusedVariables false
set_option linter.unusedSimpArgs false
namespace Go.Proofs.Yteccinlmblijfaa.Ax
open Go Go.RowKit Go.WideShapes

/-- How a type's values lie: as what they are told, in how many cells, and what is known of them. -/
structure Shape : Type 1 where
  X : Type
  sz : Nat
  cs : X → List SV
  d : X
  ok : X → Prop
def Shape.int (k : IntKind) : Shape := ⟨Int, 1, fun n => [.val (.int k n)], 0, fun n => (Lit.int k n).wf = true⟩
def Shape.byte : Shape := ⟨UInt8, 1, byteC, 0, fun _ => True⟩
def Shape.bool : Shape := ⟨Bool, 1, fun b => [.val (.bool b)], false, fun _ => True⟩
def Shape.str : Shape := ⟨ByteArray, 1, fun s => [.val (.string s)], ⟨#[]⟩, fun s => s.size ≤ 140737488351232⟩
def Shape.row (s : Shape) (by' : Nat) : Shape := ⟨List s.X, 1, fun l => [.row s.X s.sz s.cs s.d l], [], fun l => l.length * by' ≤ 140737488351232 ∧ ∀ x ∈ l, s.ok x⟩
def Shape.pair (a b : Shape) : Shape := ⟨a.X × b.X, a.sz + b.sz, fun x => a.cs x.1 ++ b.cs x.2, (a.d, b.d), fun x => a.ok x.1 ∧ b.ok x.2⟩

def Reads (P : Program) (t : Nat) (s : Shape) : Prop :=
  P.cellsOf t = s.sz ∧ ∀ (H : Type) (enc : TypeId × Value → H) (w : World) (base fuel : Nat) (l : List Value) (r : DataW H × List MemPlace),
    DataW.trod enc P w base (fun _ => true) true fuel t l = some r → (∀ n ∈ r.1.weights P t, n ≤ reachBytes) →
    ∃ x : s.X, s.ok x ∧ l.length = s.sz ∧ (s.cs x).length = s.sz ∧ ∀ j, j < s.sz → G (cellsH w) noB noT (at' (s.cs x) j .junk) (l.getD j undef)
def ReadsF (P : Program) (fs : List Go.Field) (o : Nat) (s : Shape) : Prop :=
  ∀ (H : Type) (enc : TypeId × Value → H) (w : World) (base n : Nat) (l : List Value) (xs : List (DataW H × List MemPlace)), xs.length = fs.length →
    (∀ (i : Nat) (f : Go.Field), fs[i]? = some f → DataW.trod enc P w base (fun _ => true) true n f.type ((l.drop f.offset).take (P.cellsOf f.type)) = xs[i]?) →
    (∀ m ∈ DataW.weightsEach P (fs.map (·.type)) (xs.map (·.1)), m ≤ reachBytes) →
    ∃ x : s.X, s.ok x ∧ (s.cs x).length = s.sz ∧ ∀ j, j < s.sz → G (cellsH w) noB noT (at' (s.cs x) j .junk) (l.getD (o + j) undef)

section
variable {P : Program} {t : Nat}
theorem Reads.int {k : IntKind} (ht : P.underlying t = some (.int k)) (hc : P.cellsOf t = 1) : Reads P t (.int k) :=
  ⟨hc, fun H enc w base fuel l r h hw => by
    obtain ⟨n, rfl, -, hn⟩ := DataW.trod_int ht h
    refine ⟨n, hn, rfl, rfl, fun j hj => ?_⟩
    obtain rfl : j = 0 := by have : j < 1 := hj; omega
    exact .val _⟩
theorem Reads.byte (ht : P.underlying t = some (.int .u8)) (hc : P.cellsOf t = 1) : Reads P t .byte :=
  ⟨hc, fun H enc w base fuel l r h hw => by
    obtain ⟨n, rfl, -, hn⟩ := DataW.trod_int ht h
    have hr : 0 ≤ n ∧ n < 256 := by
      simp only [Lit.wf, Bool.and_eq_true, decide_eq_true_eq] at hn
      obtain ⟨h1, h2⟩ := hn
      have h3 : IntKind.min .u8 = 0 := by decide
      have h4 : IntKind.max .u8 = 255 := by decide
      omega
    refine ⟨UInt8.ofNat n.toNat, trivial, rfl, rfl, fun j hj => ?_⟩
    obtain rfl : j = 0 := by have : j < 1 := hj; omega
    have e : ((UInt8.ofNat n.toNat).toNat : Int) = n := by
      rw [UInt8.toNat_ofNat']
      omega
    show G _ _ _ (.val (.int .u8 ((UInt8.ofNat n.toNat).toNat : Int))) _
    rw [e]
    exact .val _⟩
theorem Reads.bool (ht : P.underlying t = some .bool) (hc : P.cellsOf t = 1) : Reads P t .bool :=
  ⟨hc, fun H enc w base fuel l r h hw => by
    obtain ⟨n, rfl, -⟩ := DataW.trod_bool ht h
    refine ⟨n, trivial, rfl, rfl, fun j hj => ?_⟩
    obtain rfl : j = 0 := by have : j < 1 := hj; omega
    exact .val _⟩
theorem Reads.str (ht : P.underlying t = some .string) (hc : P.cellsOf t = 1) : Reads P t .str :=
  ⟨hc, fun H enc w base fuel l r h hw => by
    obtain ⟨s, rfl, rfl, -⟩ := DataW.trod_string ht h
    have hs := hw s.data.toList.length (by simp [DataW.weights])
    refine ⟨s, ?_, rfl, rfl, fun j hj => ?_⟩
    · have : s.data.toList.length = s.size := by simp
      rw [this] at hs; exact hs
    obtain rfl : j = 0 := by have : j < 1 := hj; omega
    exact .val _⟩
theorem weightsAll_mem {H : Type} {e : Nat} {n : Nat} {d : DataW H} (hn : n ∈ d.weights P e) : ∀ {l : List (DataW H)}, d ∈ l → n ∈ DataW.weightsAll P e l
  | x :: r, h => by
    simp only [DataW.weightsAll, List.mem_append]
    rcases List.mem_cons.1 h with rfl | h
    · exact .inl hn
    · exact .inr (weightsAll_mem hn h)
theorem Reads.row {e by' : Nat} {s : Shape} (ht : P.underlying t = some (.slice e)) (hc : P.cellsOf t = 1) (hb : P.bytesOf e = by') (hs : Reads P e s) (hz : 0 < s.sz) : Reads P t (s.row by') :=
  ⟨hc, fun H enc w base fuel l r h hw => by
    rcases Deep.open_slice ht h with ⟨rfl, rfl⟩ | ⟨a, len, cap, m, n, D, Pl, rfl, hba, hl, hm, hmm, rfl, hx⟩
    · refine ⟨[], ⟨by simp, fun x hx => by cases hx⟩, rfl, rfl, fun j hj => ?_⟩
      obtain rfl : j = 0 := by have : j < 1 := hj; omega
      exact .rowE ..
    have hmc : m = cap := by simpa using hmm
    subst hmc
    simp only [DataW.weights, ht] at hw
    have hlen : len * by' ≤ 140737488351232 := by
      have := hw _ List.mem_cons_self
      simp only [List.length_map, List.length_range, hb] at this
      refine Nat.le_trans (Nat.mul_le_mul_right _ (by omega)) this
    letI : Inhabited s.X := ⟨s.d⟩
    obtain ⟨f, hf⟩ := Deep.choose_lt (α := s.X) (n := len) (p := fun i x => s.ok x ∧ (s.cs x).length = s.sz ∧ ∃ cs', w.cells? base (a.add (i * P.cellsOf e)) (P.cellsOf e) = some cs' ∧ ∀ j, j < s.sz → G (cellsH w) noB noT (at' (s.cs x) j .junk) (cs'.getD j undef)) (fun i hi => by
      obtain ⟨cs', h1, h2⟩ := hx i (by omega)
      obtain ⟨x, k1, k2, k3, k4⟩ := hs.2 H enc w base n cs' _ h2 (fun q hq => hw q (List.mem_cons_of_mem _ (List.mem_append_left _ (weightsAll_mem hq (List.mem_map.2 ⟨i, by simpa using hi, rfl⟩)))))
      exact ⟨x, k1, k3, cs', h1, k4⟩)
    have hll : ((List.range len).map f).length = len := by simp
    have hget : ∀ i, i < len → ((List.range len).map f).getD i s.d = f i := fun i hi => by simp [List.getD, hi]
    refine ⟨(List.range len).map f, ⟨by rw [hll]; exact hlen, fun x hx => by
      obtain ⟨i, hi, rfl⟩ := List.mem_map.1 hx
      exact (hf i (by simpa using hi)).1⟩, rfl, rfl, fun j hj => ?_⟩
    obtain rfl : j = 0 := by have : j < 1 := hj; omega
    show G (cellsH w) noB noT (.row s.X s.sz s.cs s.d ((List.range len).map f)) (.slice (some a) len m)
    cases hL : len with
    | zero => exact .rowE ..
    | succ q =>
      rw [← hL]
      have hspot : a.spot = none := by
        obtain ⟨-, -, cs', h1, -⟩ := hf 0 (by omega)
        obtain ⟨-, h2, h3⟩ := World.cells?_some h1
        have h4 := h3 0 (by rw [hs.1]; exact hz)
        have h5 : ∃ v, cs'[0]? = some v := ⟨cs'[0]'(by rw [h2, hs.1]; exact hz), by simp⟩
        obtain ⟨v, h5⟩ := h5
        rw [h5] at h4
        have := World.cell?_spot h4
        simpa [Addr.add] using this
      obtain ⟨b, off, spot⟩ := a
      obtain rfl : spot = none := hspot
      have key : ∀ i j, i < len → j < s.sz → ∃ v, w.cell? ⟨b, off + i * s.sz + j, none⟩ = some v ∧ G (cellsH w) noB noT (at' (s.cs (f i)) j .junk) v := by
        intro i j hi hj
        obtain ⟨-, -, cs', h1, h2⟩ := hf i hi
        obtain ⟨-, h3, h4⟩ := World.cells?_some h1
        rw [hs.1] at h3 h4
        have h5 := h4 j hj
        rw [add_none, add_none] at h5
        have h6 : cs'[j]? = some (cs'.getD j undef) := by simp [List.getD, show j < cs'.length by omega]
        rw [h6] at h5
        exact ⟨_, h5, h2 j hj⟩
      have hG := G.row (H := cellsH w) (β := noB) (T := noT) s.X s.sz s.cs s.d ((List.range len).map f) b off m (fun i j => (w.cell? ⟨b, off + i * s.sz + j, none⟩).getD undef) (by rw [hll]; exact hl)
        (fun i hi => by rw [hll] at hi; rw [hget i hi]; exact (hf i hi).2.1)
        (fun i j hi hj => by
          rw [hll] at hi
          obtain ⟨v, h1, -⟩ := key i j hi hj
          show w.cell? _ = _
          rw [h1]; rfl)
        (fun i j hi hj => by
          rw [hll] at hi
          obtain ⟨v, h1, h2⟩ := key i j hi hj
          rw [hget i hi, h1]; exact h2)
      rw [hll] at hG
      exact hG⟩
theorem at'_append' (a b : List SV) (j : Nat) : at' (a ++ b) j .junk = if j < a.length then at' a j .junk else at' b (j - a.length) .junk := at'_append _ a b j
theorem ReadsF.one {f : Go.Field} {o : Nat} {s : Shape} (ho : f.offset = o) (h : Reads P f.type s) : ReadsF P [f] o s := by
  intro H enc w base n l xs hl hx hw
  have h1 := hx 0 f rfl
  match xs, hl with
  | [x], _ =>
    obtain ⟨y, k1, k2, k3, k4⟩ := h.2 H enc w base n _ x h1 (fun m hm => hw m (by simp [DataW.weightsEach, hm]))
    refine ⟨y, k1, k3, fun j hj => ?_⟩
    have := k4 j hj
    rw [h.1, ho] at this
    have hlen : j < (l.drop o).length := by
      have : ((l.drop o).take s.sz).length = s.sz := by rw [← ho, ← h.1]; exact k2.trans h.1.symm
      simp at this ⊢; omega
    simpa [List.getD, List.getElem?_take, List.getElem?_drop, hj] using this
theorem ReadsF.cons {f : Go.Field} {fs : List Go.Field} {o : Nat} {a b : Shape} (ho : f.offset = o) (h : Reads P f.type a) (hr : ReadsF P fs (o + a.sz) b) : ReadsF P (f :: fs) o (a.pair b) := by
  intro H enc w base n l xs hl hx hw
  match xs, hl with
  | x :: xs, hl =>
    obtain ⟨y, k1, k3, k4⟩ := ReadsF.one ho h H enc w base n l [x] rfl (fun i g e => by
      match i, e with
      | 0, e => simpa using hx 0 g (by simpa using e)) (fun m hm => hw m (by
        simp only [List.map_cons, List.map_nil, DataW.weightsEach, List.append_nil] at hm
        simp only [List.map_cons, DataW.weightsEach, List.mem_append]
        exact .inl hm))
    obtain ⟨z, m1, m3, m4⟩ := hr H enc w base n l xs (by simpa using hl) (fun i g e => by simpa using hx (i + 1) g (by simpa using e)) (fun m hm => hw m (by
        simp only [List.map_cons, DataW.weightsEach, List.mem_append]
        exact .inr hm))
    refine ⟨(y, z), ⟨k1, m1⟩, by simp [Shape.pair, k3, m3], fun j hj => ?_⟩
    have hj : j < a.sz + b.sz := hj
    show G _ _ _ (at' (a.cs y ++ b.cs z) j .junk) _
    rw [at'_append', k3]
    by_cases hlt : j < a.sz
    · rw [if_pos hlt]; exact k4 j hlt
    · rw [if_neg hlt]
      have := m4 (j - a.sz) (by omega)
      rwa [show o + a.sz + (j - a.sz) = o + j by omega] at this
theorem Reads.struct {fs : Array Go.Field} {s : Shape} (ht : P.underlying t = some (.struct fs)) (hc : P.cellsOf t = s.sz) (h : ReadsF P fs.toList 0 s) : Reads P t s :=
  ⟨hc, fun H enc w base fuel l r hr hw => by
    obtain ⟨xs, n, rfl, rfl, hl, hxl, hx⟩ := DataW.trod_struct ht hr
    obtain ⟨x, k1, k2, k3⟩ := h H enc w base n l xs (by simpa using hxl) (fun i f e => hx i f (by simpa using e)) (fun m hm => hw m (by simp only [DataW.weights, ht]; exact hm))
    exact ⟨x, k1, by omega, k2, fun j hj => by have := k3 j hj; rwa [Nat.zero_add] at this⟩⟩

variable {H : Type} {enc : TypeId × Value → H} {w : World} {v : Value} {d : DataW H} {ps : List MemPlace}
/-- an argument of one cell -/
theorem Reads.one {s : Shape} (h : Reads P t s) (hv : v.cells = #[v]) (hd : DataW.Trod enc P w 0 (fun _ => true) true t v d ps) (hw : ∀ n ∈ d.weights P t, n ≤ reachBytes) :
    ∃ x : s.X, s.ok x ∧ (s.cs x).length = 1 ∧ G (cellsH w) noB noT (at' (s.cs x) 0 .junk) v := by
  obtain ⟨fuel, hd⟩ := hd
  rw [hv] at hd
  obtain ⟨x, k1, k2, k3, k4⟩ := h.2 H enc w 0 fuel _ _ hd hw
  have k2 : 1 = s.sz := k2
  exact ⟨x, k1, by omega, k4 0 (by omega)⟩
/-- an argument that is a struct -/
theorem Reads.all {s : Shape} {fs : Array Go.Field} {r : Reach} {base : Nat} (h : Reads P t s) (ht : P.underlying t = some (.struct fs)) (hok : Value.okWide P w r base t v)
    (hd : DataW.Trod enc P w 0 (fun _ => true) true t v d ps) (hw : ∀ n ∈ d.weights P t, n ≤ reachBytes) :
    ∃ x : s.X, s.ok x ∧ G (cellsH w) noB noT (.agg (s.cs x)) v := by
  obtain ⟨cs, rfl, -⟩ := okWide_struct ht hok
  obtain ⟨fuel, hd⟩ := hd
  obtain ⟨x, k1, k2, k3, k4⟩ := h.2 H enc w 0 fuel _ _ hd hw
  have k2 : cs.toList.length = s.sz := k2
  refine ⟨x, k1, .agg _ cs (by simpa using k2.trans k3.symm) fun j hj => ?_⟩
  have := k4 j (by omega)
  simpa [List.getD, Array.getD_eq_getD_getElem?, Value.cells] using this
end
end Go.Proofs.Yteccinlmblijfaa.Ax
/- Equality of structs whose fields are numbers, bools, texts. -/
set_option linter.unusedVariables false
set_option linter.unusedSimpArgs false
namespace Go.Proofs.Yteccinlmblijfaa.Ax
open Go Go.RowKit

inductive SK where
  | int (k : IntKind)
  | bool
  | str
def SK.fits : SK → SV → Bool
  | .int k, .val (.int k' _) => ikEq k k'
  | .bool, .val (.bool _) => true
  | .str, .val (.string _) => true
  | _, _ => false
def kindsOk : List SK → List SV → Bool
  | [], [] => true
  | k :: ks, x :: xs => match k.fits x with | true => kindsOk ks xs | false => false
  | _, _ => false
def cellEq : SV → SV → Bool
  | .val (.int _ a), .val (.int _ b) => a == b
  | .val (.bool a), .val (.bool b) => a == b
  | .val (.string a), .val (.string b) => a.toList == b.toList
  | _, _ => false
def cellsEq : List SV → List SV → Bool
  | [], [] => true
  | x :: xs, y :: ys => cellEq x y && cellsEq xs ys
  | _, _ => false
def SK.desc : SK → TypeDesc → Bool
  | .int k, .int k' => ikEq k k'
  | .bool, .bool => true
  | .str, .string => true
  | _, _ => false
def flatB (P : Program) : Nat → List Go.Field → List SK → Bool
  | _, [], [] => true
  | o, f :: fs, k :: ks => f.name != "_" && f.offset == o && (match P.underlying f.type with | some d => k.desc d | none => false) && flatB P (o + 1) fs ks
  | _, _, _ => false
def flatC (X : Type) (cs : X → List SV) : EqC := { A := X, cs := cs, eq := fun u v => cellsEq (cs u) (cs v) }

theorem kindsOk_cons {k : SK} {ks : List SK} {x : SV} {xs : List SV} (h : kindsOk (k :: ks) (x :: xs) = true) : k.fits x = true ∧ kindsOk ks xs = true := by
  simp only [kindsOk] at h
  cases hk : k.fits x with
  | true => rw [hk] at h; exact ⟨rfl, h⟩
  | false => rw [hk] at h; cases h
theorem run_eqFields {P : Program} (w : World) (d : Nat) {H : HM} {β : BM} {T : TM} (xs ys : Array Value) : ∀ (fs : List Go.Field) (ks : List SK) (us vs : List SV) (o : Nat), flatB P o fs ks = true → kindsOk ks us = true → kindsOk ks vs = true →
    (∀ j, j < us.length → G H β T (at' us j .junk) (xs.getD (o + j) undef)) → (∀ j, j < vs.length → G H β T (at' vs j .junk) (ys.getD (o + j) undef)) → o + us.length ≤ xs.size → o + vs.length ≤ ys.size →
    (Op.eqFields (d + 1) xs ys fs).run P w = .ok (cellsEq us vs) w
  | [], [], us, vs, o, _, hu, hv, _, _, _, _ => by
    cases us with
    | cons _ _ => simp [kindsOk] at hu
    | nil => cases vs with
      | cons _ _ => simp [kindsOk] at hv
      | nil => rfl
  | [], k :: ks, us, vs, o, h, _, _, _, _, _, _ => by simp [flatB] at h
  | f :: fs, [], us, vs, o, h, _, _, _, _, _, _ => by simp [flatB] at h
  | f :: fs, k :: ks, us, vs, o, h, hu, hv, gu, gv, sx, sy => by
    cases us with
    | nil => simp [kindsOk] at hu
    | cons u us =>
    cases vs with
    | nil => simp [kindsOk] at hv
    | cons v vs =>
    obtain ⟨hu1, hu2⟩ := kindsOk_cons hu
    obtain ⟨hv1, hv2⟩ := kindsOk_cons hv
    simp only [flatB, Bool.and_eq_true, bne_iff_ne, ne_eq, beq_iff_eq] at h
    obtain ⟨⟨⟨hn, ho⟩, hd⟩, hr⟩ := h
    have ih := run_eqFields w d xs ys fs ks us vs (o + 1) hr hu2 hv2
      (fun j hj => by have := gu (j + 1) (by simpa using hj); rwa [show o + (j + 1) = o + 1 + j by omega] at this)
      (fun j hj => by have := gv (j + 1) (by simpa using hj); rwa [show o + (j + 1) = o + 1 + j by omega] at this)
      (by simp at sx; omega) (by simp at sy; omega)
    have g0 := gu 0 (by simp)
    have g1 := gv 0 (by simp)
    rw [Nat.add_zero] at g0 g1
    replace g0 : G H β T u (xs.getD o undef) := g0
    replace g1 : G H β T v (ys.getD o undef) := g1
    have lx : o < xs.size := by simp at sx; omega
    have ly : o < ys.size := by simp at sy; omega
    simp only [Op.eqFields]
    rw [if_pos hn]
    cases hdd : P.underlying f.type with
    | none => rw [hdd] at hd; cases hd
    | some dd =>
      rw [hdd] at hd
      have hag : isAggD dd = false := by cases k <;> cases dd <;> first | rfl | (simp [SK.desc] at hd; done)
      have px : (part f.type xs f.offset).run P w = .ok (xs.getD o undef) w := by
        simp only [part, Sem.run_bind, run_isAgg hdd, hag, Result.andThen_ok, ho]
        simp [Array.getD, lx]
      have py : (part f.type ys f.offset).run P w = .ok (ys.getD o undef) w := by
        simp only [part, Sem.run_bind, run_isAgg hdd, hag, Result.andThen_ok, ho]
        simp [Array.getD, ly]
      have he : (Op.equalIn (d + 1) f.type (xs.getD o undef) (ys.getD o undef)).run P w = .ok (cellEq u v) w := by
        generalize xs.getD o undef = a at g0
        generalize ys.getD o undef = b at g1
        cases k with
        | int kk =>
          cases u with
          | val u => cases u with
            | int k1 n =>
              cases v with
              | val v => cases v with
                | int k2 m =>
                  obtain rfl := gval g0
                  obtain rfl := gval g1
                  obtain rfl := ikEq_eq hu1
                  obtain rfl := ikEq_eq hv1
                  cases dd <;> simp [SK.desc] at hd
                  exact run_equalIn_int w d f.type _ _ n m hdd
                | _ => simp [SK.fits] at hv1
              | _ => simp [SK.fits] at hv1
            | _ => simp [SK.fits] at hu1
          | _ => simp [SK.fits] at hu1
        | bool =>
          cases u with
          | val u => cases u with
            | bool n =>
              cases v with
              | val v => cases v with
                | bool m =>
                  obtain rfl := gval g0
                  obtain rfl := gval g1
                  cases dd <;> simp [SK.desc] at hd
                  exact run_equalIn_bool w d f.type n m hdd
                | _ => simp [SK.fits] at hv1
              | _ => simp [SK.fits] at hv1
            | _ => simp [SK.fits] at hu1
          | _ => simp [SK.fits] at hu1
        | str =>
          cases u with
          | val u => cases u with
            | string n =>
              cases v with
              | val v => cases v with
                | string m =>
                  obtain rfl := gval g0
                  obtain rfl := gval g1
                  cases dd <;> simp [SK.desc] at hd
                  exact run_equalIn_string w d f.type n m hdd
                | _ => simp [SK.fits] at hv1
              | _ => simp [SK.fits] at hv1
            | _ => simp [SK.fits] at hu1
          | _ => simp [SK.fits] at hu1
      simp only [Sem.run_bind, px, py, he, Result.andThen_ok, Sem.run_ite]
      cases hc : cellEq u v with
      | true => simp only [Bool.not_true, Bool.false_eq_true, if_false, cellsEq, hc, Bool.true_and]; exact ih
      | false => simp [cellsEq, hc]
theorem eq_flat {P : Program} {t : Nat} {fs : Array Go.Field} (ks : List SK) (X : Type) (cs : X → List SV) (hu : P.underlying t = some (.struct fs)) (hp : P.stoodInHeld t = false) (hm : P.eqGuardType P.depth t = false)
    (hk : flatB P 0 fs.toList ks = true) (hc : ∀ x, kindsOk ks (cs x) = true) : EqSound P t (flatC X cs) := by
  intro u v H β T xs ys w x y hx hy gx gy
  have hx : xs.size = (cs u).length := hx
  have hy : ys.size = (cs v).length := hy
  refine ⟨fun op => run_eqGuard_agg w op t x y xs ys hm, ?_⟩
  have hf : P.fieldsOf t = fs := by unfold Program.fieldsOf; rw [hu]
  show (Op.equalIn (9999 + 1) t (.agg xs) (.agg ys)).run P w = _
  rw [run_equalIn_agg w 9999 t xs ys (by rw [hf]; exact hu) hp, hf]
  exact run_eqFields w 9998 xs ys fs.toList ks (cs u) (cs v) 0 hk (hc u) (hc v) (fun j hj => by rw [Nat.zero_add]; exact gx j hj) (fun j hj => by rw [Nat.zero_add]; exact gy j hj) (by omega) (by omega)
end Go.Proofs.Yteccinlmblijfaa.Ax
/- Functions that turn what is known of blocks of one's own. -/
set_option linter.unusedVariables false
set_option linter.unusedSimpArgs false
namespace Go.Proofs.Yteccinlmblijfaa.Ax
open Go Go.RowKit
def stX (enc : List SV) (X : Side) (n : Nat) : ASt := ⟨(Tr.mk (.val undef) n n).fill 0 enc, insT (some (sideB X)) 14 9999 (Tr.mk none n n)⟩
def PostX {O : Type} (E : Env) (rs : List ResultVar) (post : O → Side) (res : O → SV) (e : Ex) (s : ASt) : Prop := match e with
  | .exit _ => False
  | _ => resK E rs s fun l => ∃ u, Sub (res1 l) (res u) ∧ scal (res u) = true ∧ s.bx.get 9999 none = some (sideB (post u))
section
variable {P : Program} {E : Env}
theorem ctrX_of_ax (hm : P.follows .mixedOrders = true) {g : Nat} {fn : Func} {body : Code} (c : CtrX) (hf : P.funcs[g]? = some fn) (hname : (fn.name == "runtime.NumGoroutine") = false) (hb : fn.body = some body)
    (hlen : ∀ x, c.dom x → (c.enc x).length ≤ fn.ntmps) (h : ∀ (x : c.A), c.dom x → ∃ E, (EnvOk P E ∧ ∀ w, c.gl w → E.gl w) ∧ ax E body (stX (c.enc x) (c.pre x) fn.ntmps) (PostX E fn.results.toList (c.post x) (c.res x))) : CtrXSound P g c := by
  refine ⟨⟨fn, hf, hname, by rw [hb]; rfl⟩, ?_⟩
  intro x H w vs hd hseal hgl hsz hG hpre hdis
  obtain ⟨E, ⟨hE, hEg⟩, hax⟩ := h x hd
  haveI : GlOk E H w := ⟨fun w' hs hsh => hEg w' (hgl w' hs hsh)⟩
  have hlen := hlen x hd
  refine calls_of_wp hf hb ?_
  let M : BM := fun i => open Classical in if 10000 ≤ i ∧ (c.pre x).blk (i - 10000) then some (i - 10000) else none
  have hM : ∀ i k, M i = some k → 10000 ≤ i ∧ (c.pre x).blk k := by
    intro i k e
    simp only [M] at e
    split at e
    · rename_i hh; rw [← Option.some.inj e]; exact hh
    · cases e
  have hM2 : ∀ k, (c.pre x).blk k → M (10000 + k) = some k := by
    intro k hk
    show (open Classical in if 10000 ≤ 10000 + k ∧ (c.pre x).blk (10000 + k - 10000) then some (10000 + k - 10000) else none) = some k
    rw [Nat.add_sub_cancel_left]
    exact if_pos ⟨Nat.le_add_right .., hk⟩
  have hget : ∀ id, (stX (c.enc x) (c.pre x) fn.ntmps).bx.get id none = if 9999 = id then some (sideB (c.pre x)) else none := by
    intro id
    show (insT (some (sideB (c.pre x))) 14 9999 (Tr.mk none fn.ntmps fn.ntmps)).get id none = _
    rw [insT_get _ _ _ _ _ (by decide)]
    by_cases hid : 9999 = id
    · rw [if_pos hid, if_pos hid]
    · rw [if_neg hid, if_neg hid, mk_get _ _ _ _ _ (Nat.le_refl _)]
      split <;> rfl
  have hr : Rel M w H (stX (c.enc x) (c.pre x) fn.ntmps) { tmps := vs ++ Array.replicate (fn.ntmps - vs.size) undef, defers := [] } w := by
    refine ⟨H, noB, noT, ⟨?_, rfl, ?_⟩, ⟨fun b o v e => ⟨hseal b o v e, rfl⟩, ?_, fun _ _ e => (by cases e), fun _ _ _ e => (by cases e), fun _ _ _ e => (by cases e), fun _ _ _ e => (by cases e), fun i k e => ⟨by have := (hM i k e).1; omega, fun _ c => (by cases c)⟩, ?_, fun _ _ e => (by cases e), fun _ _ _ => rfl, ⟨rfl, rfl, rfl, Nat.le_refl _, fun _ _ _ => rfl, fun _ _ => rfl⟩, .refl _, fun _ _ _ => .inr rfl, ?_, ?_⟩⟩
    · intro j hj
      simp only [stX, fill_has, mk_has _ _ _ _ (Nat.le_refl _), decide_eq_true_eq] at hj
      simp
      omega
    · intro j
      show G H noB noT (((Tr.mk (.val undef) fn.ntmps fn.ntmps).fill 0 (c.enc x)).get j .junk) _
      rw [fill_get _ _ _ _ _ (fun q hq => by rw [mk_has _ _ _ _ (Nat.le_refl _)]; simp; omega)]
      by_cases hl : j < (c.enc x).length
      · rw [if_pos (by omega), Nat.sub_zero]
        have e2 : (vs ++ Array.replicate (fn.ntmps - vs.size) undef).getD j undef = vs.getD j undef := by
          simp [Array.getD_eq_getD_getElem?, Array.getElem?_append, show j < vs.size by omega]
        rw [e2]
        exact hG j hl
      · rw [if_neg (by omega), mk_get _ _ _ _ _ (Nat.le_refl _)]
        by_cases hn : j < fn.ntmps
        · rw [if_pos hn]
          have e2 : (vs ++ Array.replicate (fn.ntmps - vs.size) undef).getD j undef = undef := by
            have h2 : j - vs.size < fn.ntmps - vs.size := by omega
            simp [Array.getD_eq_getD_getElem?, Array.getElem?_append, show ¬ j < vs.size by omega, h2]
          rw [e2]
          exact .val _
        · rw [if_neg hn]; exact .junk _
    · intro id cs e hl
      rw [hget] at e
      split at e
      · obtain rfl := Option.some.inj e
        rw [xlen_side] at hl; omega
      · cases e
    · intro id X sz cs d l e
      rw [hget] at e
      split at e
      · exact side_many (Option.some.inj e)
      · cases e
    · rintro k ⟨i, e | ⟨e1, e2, -⟩⟩
      · cases e
      · have := (hM i k e2).1; omega
    · intro X e
      rw [hget, if_pos rfl] at e
      obtain rfl := side_inj (Option.some.inj e)
      exact ⟨hpre, fun k hk => ⟨fun _ c => (by cases c), fun o => ⟨hdis k hk o, rfl⟩, .inl ⟨10000 + k, Nat.le_add_right .., hM2 k hk⟩⟩⟩
  refine ax_sound hE hm body hax hr ?_
  intro e s' a' w' hp hr'
  have main : resK E fn.results.toList s' (fun l => ∃ u, Sub (res1 l) (c.res x u) ∧ scal (c.res x u) = true ∧ s'.bx.get 9999 none = some (sideB (c.post x u))) →
      a'.defers = [] ∧ ∃ v, (results fn a'.tmps).run P w' = .ok v w' ∧ ∃ v' u, Ending.returned v = .returned v' ∧ Chg (c.pre x) (c.post x u) w w' ∧ G (fun _ _ => none) noB noT (c.res x u) v' := by
    intro hp
    obtain ⟨H', β, T, hf', hw'⟩ := hr'
    obtain ⟨l, v, ⟨u, h1, h2, h3⟩, h4, h5⟩ := results_G hE hf' hw' fn _ hp
    have hs := hw'.side _ h3
    refine ⟨hf'.defers, v, h5, v, u, rfl, ⟨hw'.keep.os, hw'.keep.tape, hw'.keep.output, hw'.keep.size, fun k hk hb => hw'.keep.block k hk fun ⟨i, e⟩ => hb (hM i k e).2, hw'.keep.shape, hs.1, fun k hk => ?_⟩, (h4.sub h1).scal h2 _ _ _⟩
    rcases (hs.2 k hk).2.2 with ⟨i, -, e⟩ | e
    · exact .inl (hM i k e).2
    · exact .inr e
  cases e with
  | normal => exact main hp
  | exit n => exact hp.elim
  | ret => exact main hp
/-- a contract that begins with nothing known: what it answers, sealed -/
theorem ctr_of_ctrX {g : Nat} (c : CtrX) (h : CtrXSound P g c) (d : Ctr) (f : d.A → c.A) (he : ∀ x, d.dom x → c.enc (f x) = d.enc x) (hd : ∀ x, d.dom x → c.dom (f x)) (hgl : ∀ w, d.gl w → c.gl w) (hp : ∀ x, c.pre (f x) = .emp)
    (hs : ∀ x u v w (id : Nat), d.dom x → G (fun _ _ => none) noB noT (c.res (f x) u) v → (c.post (f x) u).holds w → ∃ N : HM, (∀ b q y, N b q = some y → (c.post (f x) u).blk b ∧ w.cell? ⟨b, q, none⟩ = some y) ∧ G N noB noT (d.res x id) v) : CtrSound P g d := by
  refine ⟨h.1, fun x H w vs id hx hseal hg hn hG => ?_⟩
  refine (h.2 (f x) H w vs (hd x hx) hseal (fun w' a b => hgl w' (hg w' a b)) (by rw [he x hx]; exact hn) (fun j hj => by rw [he x hx] at hj ⊢; exact hG j hj) (by rw [hp]; trivial) (fun k hk => by rw [hp] at hk; exact hk.elim)).mono ?_
  rintro e w' ⟨v, u, rfl, hc, hv⟩
  obtain ⟨N, hN, hr⟩ := hs x u v w' id hx hv hc.holds
  have hnew : ∀ b q y, N b q = some y → w.heap.size ≤ b := fun b q y e => by
    rcases hc.blk b (hN b q y e).1 with h1 | h1
    · rw [hp] at h1; exact h1.elim
    · exact h1
  have hb : Below w.heap.size w w' := ⟨hc.os, hc.tape, hc.output, hc.size, fun k hk => hc.block k hk fun hb => by rw [hp] at hb; exact hb⟩
  have hle : HLe N (newH w fun b o => if w.heap.size ≤ b then N b o else H b o) := fun b o y e => by
    unfold newH
    have := hnew b o y e
    rw [if_neg (by omega)]
    show (if w.heap.size ≤ b then N b o else H b o) = some y
    rw [if_pos this]; exact e
  refine ⟨v, fun b o => if w.heap.size ≤ b then N b o else H b o, noT, rfl, hb, fun b o y e => ?_, fun b o hlt => if_neg (by omega), fun _ _ _ e => (by cases e), fun b o y e => ⟨?_, rfl⟩, ?_, fun _ => hr.mono hle (.refl _) (.refl _)⟩
  · have hlt := cell_lt (hseal b o y e)
    show (if _ then _ else _) = _
    rw [if_neg (by omega)]; exact e
  · by_cases hlt : w.heap.size ≤ b
    · have e : (if w.heap.size ≤ b then N b o else H b o) = some y := e
      rw [if_pos hlt] at e; exact (hN b o y e).2
    · have e : (if w.heap.size ≤ b then N b o else H b o) = some y := e
      rw [if_neg hlt] at e
      rw [hb.cell (p := ⟨b, o, none⟩) (by simpa using (by omega : b < w.heap.size))]; exact hseal b o y e
  · refine hr.mono (fun b o y e => ?_) (.refl _) (.refl _)
    show (if _ then _ else _) = _
    rw [if_pos (hnew b o y e)]; exact e
end
/-- the marks of operations that turn such blocks: by what they are stored in, or 1300000 + the temporary that is stored through, or 1400000 for maps -/
def sides : List Nat → List Nat → List Nat
  | [], l => l
  | d :: r, l => (match Nat.ble 1000000 d with | true => d | false => Nat.add 1200000 d) :: sides r l
def AllX (P : Program) : List (Nat × CtrX) → Prop
  | [] => True
  | (g, c) :: r => CtrXSound P g c ∧ AllX P r
theorem AllX_at {P : Program} : ∀ {l : List (Nat × CtrX)}, AllX P l → ∀ g c, (g, c) ∈ l → CtrXSound P g c
  | (g, c) :: r, h, g', c', hm => by
    rcases List.mem_cons.1 hm with e | e
    · cases e; exact h.1
    · exact AllX_at h.2 g' c' e
def AllGX (gl : World → Prop) : List (Nat × CtrX) → Prop
  | [] => True
  | (_, c) :: r => (∀ w, gl w → c.gl w) ∧ AllGX gl r
theorem AllGX_at {gl : World → Prop} : ∀ {l : List (Nat × CtrX)}, AllGX gl l → ∀ g c, (g, c) ∈ l → ∀ w, gl w → c.gl w
  | (g, c) :: r, h, g', c', hm => by
    rcases List.mem_cons.1 hm with e | e
    · cases e; exact h.1
    · exact AllGX_at h.2 g' c' e
/-- sd: the marks -/
def envX (P : Program) (ty : List (Nat × TI)) (eqs : List (Nat × EqC)) (cs : List (Nat × Ctr)) (bs : List (Nat × CtrB)) (xs : List (Nat × CtrX)) (sd : List Nat) (vec : List Nat := []) (gl : World → Prop := fun _ => True) (cut : List Nat := []) : Env :=
  { ty := ty, ctr := find cs, eqs := find eqs, ctrB := find bs, ctrX := find xs, sd := true, opx := OpOk P, bs := cuts cut (sides sd (vecs vec (fsts bs))), gl := gl }
theorem env_okX {P : Program} {ty : List (Nat × TI)} {eqs : List (Nat × EqC)} {cs : List (Nat × Ctr)} {bs : List (Nat × CtrB)} {xs : List (Nat × CtrX)} (ht : tysB P ty = true) (he : AllE P eqs) (hc : AllC P cs) (hb : AllB P bs) (hx : AllX P xs) (sd : List Nat) (vec : List Nat := []) (gl : World → Prop := fun _ => True) (cut : List Nat := [])
    (hg : AllG gl cs := by repeat (first | exact True.intro | refine ⟨fun _ h => (by first | exact True.intro | exact h | exact h.1 | exact h.2), ?_⟩)) (hgb : AllGB gl bs := by repeat (first | exact True.intro | refine ⟨fun _ h => (by first | exact True.intro | exact h | exact h.1 | exact h.2), ?_⟩))
    (hgx : AllGX gl xs := by repeat (first | exact True.intro | refine ⟨fun _ h => (by first | exact True.intro | exact h | exact h.1 | exact h.2), ?_⟩)) : EnvOk P (envX P ty eqs cs bs xs sd vec gl cut) :=
  ⟨fun g c h => AllX_at hx g c (find_mem h), fun g c h => AllGX_at hgx g c (find_mem h), fun _ _ _ _ _ _ h => h, fun t c h => AllE_at he t c (find_mem h), tysB_ok ht, fun g c h => AllC_at hc g c (find_mem h), fun g c h => AllB_at hb g c (find_mem h), fun g c h => AllG_at hg g c (find_mem h), fun g c h => AllGB_at hgb g c (find_mem h)⟩
end Go.Proofs.Yteccinlmblijfaa.Ax
/- The types of this seat's program, as the logic wants them; held against the program by the kernel. -/
namespace Go.Proofs.Yteccinlmblijfaa.Ax
open Go
def tys : List (Nat × TI) := [
  (3, { zero := [.int .i64 0], int := some .i64 }),
  (29, { agg := true, flds := [(0, 26), (1, 27)], size := 2, zero := [.slice none 0 0, .slice none 0 0], bytes := 48 }),
  (45, { agg := true, flds := [(0, 3), (1, 43), (3, 3)], size := 4, zero := [.int .i64 0, .int .i64 0, .slice none 0 0, .int .i64 0], bytes := 48 }),
  (26, { zero := [.slice none 0 0], slice := true, elem := 45, bytes := 24 }),
  (27, { zero := [.slice none 0 0], slice := true, elem := 56, bytes := 24 }),
  (35, { agg := true, flds := [(0, 3), (1, 9)], size := 2, zero := [.int .i64 0, .string ⟨#[]⟩], bytes := 24 }),
  (43, { agg := true, flds := [(0, 3), (1, 41)], size := 2, zero := [.int .i64 0, .slice none 0 0], bytes := 32 }),
  (56, { agg := true, flds := [(0, 35), (2, 26), (3, 3)], size := 4, zero := [.int .i64 0, .string ⟨#[]⟩, .slice none 0 0, .int .i64 0], bytes := 56 }),
  (41, { zero := [.slice none 0 0], slice := true, elem := 50, bytes := 24 }),
  (22, { zero := [.slice none 0 0], slice := true, elem := 35, bytes := 24 }),
  (40, { zero := [.int .u64 0], int := some .u64 }),
  (30, { zero := [.int .i64 0], int := some .i64 }),
  (4, { zero := [.bool false], bool := true, bytes := 1 }),
  (77, { agg := true, flds := [(0, 29), (2, 3), (3, 24), (4, 4)], size := 5, zero := [.slice none 0 0, .slice none 0 0, .int .i64 0, .slice none 0 0, .bool false], bytes := 88 }),
  (50, { agg := true, flds := [(0, 3), (1, 3)], size := 2, zero := [.int .i64 0, .int .i64 0], bytes := 16 }),
  (25, { zero := [.slice none 0 0], slice := true, elem := 3, bytes := 24 }),
  (70, { agg := true, flds := [(0, 29), (2, 3), (3, 68)], size := 4, zero := [.slice none 0 0, .slice none 0 0, .int .i64 0, .map none], bytes := 64 }),
  (24, { zero := [.slice none 0 0], slice := true, elem := 4, bytes := 24 }),
  (23, { zero := [.slice none 0 0], slice := true, elem := 22, bytes := 24 }),
  (67, { zero := [.pointer none] }),
  (68, { zero := [.map none] }),
  (64, { zero := [.nilFunc] }),
  (75, { zero := [.pointer none] }),
  (71, { zero := [.nilFunc] }),
  (9, { zero := [.string ⟨#[]⟩], str := true, bytes := 16 })]
theorem tys_ok : tysB Try.prog tys = true := by kernel_rfl
theorem mixed : Try.prog.follows .mixedOrders = true := by kernel_rfl
end Go.Proofs.Yteccinlmblijfaa.Ax
/- Small lemmas for the leaves of the logic's walks. -/
set_option linter.unusedVariables false
set_option linter.unusedSimpArgs false
namespace Go.Proofs.Yteccinlmblijfaa.Ax
open Go Go.RowKit
theorem Sub.bool {a b : Bool} (h : a = b) : Sub (.val (.bool a)) (.val (.bool b)) := by subst h; exact .refl _
theorem Sub.btt {b : Bool} (h : b = true) : Sub .tt (.val (.bool b)) := by subst h; exact .tt
theorem Sub.bff {b : Bool} (h : b = false) : Sub .ff (.val (.bool b)) := by subst h; exact .ff
theorem Sub.toTT {b : Bool} (h : b = true) : Sub (.val (.bool b)) .tt := by subst h; exact .tt'
theorem Sub.int {k : IntKind} {a b : Int} (h : a = b) : Sub (.val (.int k a)) (.val (.int k b)) := by subst h; exact .refl _
theorem Sub.str {a b : ByteArray} (h : a = b) : Sub (.val (.string a)) (.val (.string b)) := by subst h; exact .refl _
theorem Sub.tup3 {a b c d e f : SV} (h : Sub a b) (h2 : Sub c d) (h3 : Sub e f) : Sub (.tup [a, c, e]) (.tup [b, d, f]) := .tup _ _ rfl fun j hj => by
  match j, hj with
  | 0, _ => exact h
  | 1, _ => exact h2
  | 2, _ => exact h3
theorem Sub.agg2 {a b c d : SV} (h : Sub a b) (h2 : Sub c d) : Sub (.agg [a, c]) (.agg [b, d]) := .agg _ _ rfl fun j hj => by
  match j, hj with
  | 0, _ => exact h
  | 1, _ => exact h2
theorem wrap_eq (n : Int) (h0 : -9223372036854775808 ≤ n) (h1 : n ≤ 9223372036854775807) : IntKind.i64.wrap n = n := by
  simp only [IntKind.wrap, IntKind.bits, IntKind.signed]
  simp
  omega
end Go.Proofs.Yteccinlmblijfaa.Ax
/- What contracts by hand have in common. -/

set_option linter.unusedVariables false
set_option linter.unusedSimpArgs false
namespace Go.Proofs.Yteccinlmblijfaa.Ax
open Go Go.RowKit
theorem args1 {H : HM} {a : SV} {vs : Array Value} (hn : vs.size = 1) (hg : ∀ j, j < 1 → G H noB noT (at' [a] j .junk) (vs.getD j undef)) : ∃ v, vs = #[v] ∧ G H noB noT a v := by
  obtain ⟨l⟩ := vs
  match l, hn with
  | [v], _ => exact ⟨v, rfl, hg 0 (by omega)⟩
theorem args2 {H : HM} {a b : SV} {vs : Array Value} (hn : vs.size = 2) (hg : ∀ j, j < 2 → G H noB noT (at' [a, b] j .junk) (vs.getD j undef)) : ∃ u v, vs = #[u, v] ∧ G H noB noT a u ∧ G H noB noT b v := by
  obtain ⟨l⟩ := vs
  match l, hn with
  | [u, v], _ => exact ⟨u, v, rfl, hg 0 (by omega), hg 1 (by omega)⟩
theorem gval' {H : HM} {β : BM} {T : TM} {v u : Value} (h : G H β T (.val v) u) : u = v := by cases h; rfl

end Go.Proofs.Yteccinlmblijfaa.Ax
/- Blocks of one's own beside others; rows and sealed cells as such blocks. -/
set_option linter.unusedVariables false
set_option linter.unusedSimpArgs false
namespace Go.Proofs.Yteccinlmblijfaa.Ax
open Go Go.RowKit
/-- the one beside the other -/
def Side.star (F X : Side) : Side := ⟨fun w => F.holds w ∧ X.holds w ∧ ∀ k, F.blk k → ¬ X.blk k, fun k => F.blk k ∨ X.blk k,
  fun w w' h hw => ⟨F.loc w w' (fun k hk => h k (.inl hk)) hw.1, X.loc w w' (fun k hk => h k (.inr hk)) hw.2.1, hw.2.2⟩,
  fun w hw k hk => hk.elim (F.inw w hw.1 k) (X.inw w hw.2.1 k)⟩
theorem Chg.frame {F X Y : Side} {w w' : World} (h : (F.star X).holds w) (hc : Chg X Y w w') : Chg (F.star X) (F.star Y) w w' := by
  obtain ⟨hf, hx, hd⟩ := h
  refine ⟨hc.os, hc.tape, hc.output, hc.size, fun k hk hb => hc.block k hk fun c => hb (.inr c), hc.shape, ⟨F.loc w w' (fun k hk => hc.block k (F.inw w hf k hk) (hd k hk)) hf, hc.holds, fun k hk hy => ?_⟩, fun k hk => ?_⟩
  · rcases hc.blk k hy with c | c
    · exact hd k hk c
    · have := F.inw w hf k hk; omega
  · rcases hk with c | c
    · exact .inl (.inl c)
    · exact (hc.blk k c).imp .inr id
theorem OpOk.frame {P : Program} {o : Oper} {ρ : Operand → SV} {X : Side} {O : Type} {Y : O → Side} {r : O → SV} (h : OpOk P o ρ X O Y r) (F : Side) : OpOk P o ρ (F.star X) O (fun u => F.star (Y u)) r := by
  intro H β T a w Q next hg hx hs hd hk
  exact h H β T a w Q next hg hx.2.1 hs (fun k hb q => hd k (.inr hb) q) fun u v w' hc hv => hk u v w' (hc.frame hx) hv
def CtrX.frame (c : CtrX) : CtrX := { A := c.A × Side, O := c.O, enc := fun x => c.enc x.1, pre := fun x => x.2.star (c.pre x.1), dom := fun x => c.dom x.1, res := fun x u => c.res x.1 u, post := fun x u => x.2.star (c.post x.1 u), gl := c.gl }
theorem CtrXSound.frame {P : Program} {g : Nat} {c : CtrX} (h : CtrXSound P g c) : CtrXSound P g c.frame := by
  refine ⟨h.1, fun x H w vs hd hs hgl hn hg hp hdis => ?_⟩
  refine (h.2 x.1 H w vs hd hs hgl hn hg hp.2.1 (fun k hk o => hdis k (.inr hk) o)).mono ?_
  rintro e w' ⟨v, u, rfl, hc, hv⟩
  exact ⟨v, u, rfl, hc.frame hp, hv⟩
/-- the same for what begins with nothing known -/
def CtrX.frameE (c : CtrX) : CtrX := { A := c.A × Side, O := c.O, enc := fun x => c.enc x.1, pre := fun x => x.2, dom := fun x => c.dom x.1, res := fun x u => c.res x.1 u, post := fun x u => x.2.star (c.post x.1 u), gl := c.gl }
theorem CtrXSound.frameE {P : Program} {g : Nat} {c : CtrX} (h : CtrXSound P g c) (he : ∀ x, c.pre x = .emp) : CtrXSound P g c.frameE := by
  refine ⟨h.1, fun x H w vs hd hs hgl hn hg hp hdis => ?_⟩
  have hp : x.2.holds w := hp
  refine (h.2 x.1 H w vs hd hs hgl hn hg (by rw [he]; trivial) (fun k hk => by rw [he] at hk; exact hk.elim)).mono ?_
  rintro e w' ⟨v, u, rfl, hc, hv⟩
  rw [he] at hc
  have hnew : ∀ k, (c.post x.1 u).blk k → w.heap.size ≤ k := fun k hk => (hc.blk k hk).elim (fun c => c.elim) id
  refine ⟨v, u, rfl, ⟨hc.os, hc.tape, hc.output, hc.size, fun k hk _ => hc.block k hk fun c => c, hc.shape, ⟨x.2.loc w w' (fun k hk => hc.block k (x.2.inw w hp k hk) fun c => c) hp, hc.holds, fun k hk hy => ?_⟩, fun k hk => ?_⟩, hv⟩
  · have := x.2.inw w hp k hk
    have := hnew k hy
    omega
  · rcases hk with hk | hk
    · exact .inl hk
    · exact .inr (hnew k hk)
/-- nothing turns, nothing is asked: whatever such blocks there are -/
theorem OpOk.still {P : Program} {o : Oper} {ρ : Operand → SV} {O : Type} {r : O → SV} (h : OpOk P o ρ .emp O (fun _ => .emp) r) (X : Side) : OpOk P o ρ X O (fun _ => X) r := by
  intro H β T a w Q next hg hx hs hd hk
  refine h H β T a w Q next hg trivial hs (fun k hb => hb.elim) fun u v w' hc hv => hk u v w' ⟨hc.os, hc.tape, hc.output, hc.size, fun k hk _ => hc.block k hk fun c => c, hc.shape, X.loc w w' (fun k hk => hc.block k (X.inw w hx k hk) fun c => c) hx, fun k hk => .inl hk⟩ hv
/-- a row of one's own -/
def rowSide (e : TypeId) (size : Nat) (v : Value) (n : Nat) (xs : List Value) : Side := ⟨fun w => w.ownsRow 0 e size v n xs, fun k => v.ownBlock = some k, fun w w' h hw => by
    refine ⟨hw.1, hw.2.imp id ?_⟩
    rintro ⟨g, cap, cur, hv, h1, h2, h3⟩
    exact ⟨g, cap, cur, hv, h1, by rw [h g (by rw [hv]; rfl)]; exact h2, h3⟩, fun w hw k hk => by
    rcases hw.2 with ⟨hv, -⟩ | ⟨g, cap, cur, hv, -, h2, -⟩
    · rw [hv] at hk; cases hk
    · rw [hv] at hk
      have : g = k := Option.some.inj hk
      subst this
      rcases Nat.lt_or_ge g w.heap.size with h' | h'
      · exact h'
      · simp [Array.getElem?_eq_none h'] at h2⟩
/-- cells that stay as they are; Q: what is known of them -/
def sealSide (N : HM) (Q : Prop) : Side := ⟨fun w => Q ∧ ∀ b o y, N b o = some y → w.cell? ⟨b, o, none⟩ = some y, fun k => ∃ o y, N k o = some y, fun w w' h hw => ⟨hw.1, fun b o y e => by
    rw [World.cell?_of_block (w := w) (h b ⟨o, y, e⟩)]; exact hw.2 b o y e⟩, fun w hw k hk => by
    obtain ⟨o, y, e⟩ := hk
    exact World.block_lt_of_cell? w _ (hw.2 k o y e)⟩
end Go.Proofs.Yteccinlmblijfaa.Ax
