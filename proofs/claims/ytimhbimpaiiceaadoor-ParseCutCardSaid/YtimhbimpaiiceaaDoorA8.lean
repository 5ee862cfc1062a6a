/- Steps that may change places; a region whose order is open. -/
import Derived.Test.YtimhbimpaiiceaaDoorA7
import Derived.Test.YtimhbimpaiiceaaDoorA11
set_option linter.unusedVariables false
set_option linter.unusedSimpArgs false
set_option linter.unusedSectionVars false
namespace Go.Proofs.YtimhbimpaiiceaaDoor.Ax
open Go Go.RowKit

/-! ### 1. Two steps change places -/
def refine1 (r : Option (Nat × Bool)) (fr : Tr SV) : Tr SV := match r with
  | some (g, b) => fr.put g (lit b)
  | none => fr
/-- A step, told in one way. -/
def Step2 (E : Env) (all : List Oper) (o : Oper) (s s' : ASt) : Prop :=
  ∃ (r : Option (Nat × Bool)) (v : SV) (b : Tr (Option (List SV))), s' = ⟨setD o.dst v (refine1 r s.fr), b⟩ ∧
    (∀ g c, r = some (g, c) → g ∈ gIn all o ∧ (s.fr.get g .junk = lit c ∨ s.fr.get g .junk = .val (.bool c))) ∧
    ((v = .val undef ∧ b = s.bx ∧ (∃ j c g, o.guard = some (j, c) ∧ gOf all j = some g ∧ (r = some (g, !c) ∨ r = none ∧ ∃ x, s.fr.get g .junk = .val (.tuple x)))) ∨
     ((∀ k' : SV → Tr (Option (List SV)) → Prop, k' v b → stepB E (dOf o.dst) o.op (ev ⟨refine1 r s.fr, s.bx⟩) s.bx k') ∧
       (o.guard = none ∧ r = none ∨ ∃ j c g, o.guard = some (j, c) ∧ gOf all j = some g ∧ r = some (g, c))))

theorem gIn_of {all : List Oper} {o : Oper} {j : Nat} {c : Bool} {g : Nat} (hg : o.guard = some (j, c)) (hj : gOf all j = some g) : gIn all o = [g] := by
  unfold gIn; rw [hg]; simp [hj]
theorem Step1.to2 {E : Env} {all : List Oper} {o : Oper} {s s' : ASt} (ha : isApp o.op = none) (hz : isFrz E.bs o = none) (h : Step1 E all o s s') : Step2 E all o s s' := by
  cases h with
  | plain _ hg h =>
    rcases h with ⟨-, -, v, b, h1, rfl⟩ | ⟨_, _, _, _, hb, -⟩ | ⟨-, hb, -⟩
    case inr.inl => rw [ha] at hb; cases hb
    case inr.inr => rcases hb with hb | hb; exact absurd ha hb; exact absurd hz hb
    exact ⟨none, v, b, rfl, fun _ _ e => by (cases e), .inr ⟨h1, .inl ⟨hg, rfl⟩⟩⟩
  | run _ s0 j b g hg hj hr h =>
    obtain ⟨hr1, rfl⟩ := hr
    rcases h with ⟨-, -, v, b', h1, rfl⟩ | ⟨_, _, _, _, hb, -⟩ | ⟨-, hb, -⟩
    case inr.inl => rw [ha] at hb; cases hb
    case inr.inr => rcases hb with hb | hb; exact absurd ha hb; exact absurd hz hb
    exact ⟨some (g, b), v, b', rfl, fun _ _ e => by (cases e; exact ⟨by rw [gIn_of hg hj]; simp, hr1⟩), .inr ⟨h1, .inr ⟨j, b, g, hg, hj, rfl⟩⟩⟩
  | skip s0 j b g hg hj hr =>
    obtain ⟨hr1, rfl⟩ := hr
    exact ⟨some (g, !b), .val undef, s.bx, rfl, fun _ _ e => by (cases e; exact ⟨by rw [gIn_of hg hj]; simp, hr1⟩), .inl ⟨rfl, rfl, j, b, g, hg, hj, .inl rfl⟩⟩
  | void j b g x hg hj hr =>
    exact ⟨none, .val undef, s.bx, rfl, fun _ _ e => by (cases e), .inl ⟨rfl, rfl, j, b, g, hg, hj, .inr ⟨rfl, x, hr⟩⟩⟩
theorem Step2.to1 {E : Env} {all : List Oper} {o : Oper} {s s' : ASt} (ha : isApp o.op = none) (hz : isFrz E.bs o = none) (h : Step2 E all o s s') : Step1 E all o s s' := by
  obtain ⟨r, v, b, rfl, hr, h⟩ := h
  rcases h with ⟨rfl, rfl, j, c, g, hg, hj, h⟩ | ⟨h1, h⟩
  · rcases h with rfl | ⟨rfl, x, hx⟩
    · exact .skip ⟨s.fr.put g (lit !c), s.bx⟩ j c g hg hj ⟨(hr _ _ rfl).2, rfl⟩
    · exact .void j c g x hg hj hx
  · rcases h with ⟨hg, rfl⟩ | ⟨j, c, g, hg, hj, rfl⟩
    · exact .plain _ hg (.inl ⟨ha, hz, v, b, h1, rfl⟩)
    · exact .run _ ⟨s.fr.put g (lit c), s.bx⟩ j c g hg hj ⟨(hr _ _ rfl).2, rfl⟩ (.inl ⟨ha, hz, v, b, h1, rfl⟩)

theorem setD_has {α : Type _} (d : Option Nat) (v : α) (l : Tr α) (j : Nat) : (setD d v l).has j = l.has j := by
  cases d with
  | none => rfl
  | some d => exact Tr.has_put _ _ _ _
theorem setD_like {α : Type _} (d : Option Nat) (v : α) (l : Tr α) : (setD d v l).like l := by
  cases d with
  | none => exact Tr.like_refl _
  | some d => exact Tr.like_put _ _ _
theorem refine1_has (r : Option (Nat × Bool)) (l : Tr SV) (j : Nat) : (refine1 r l).has j = l.has j := by
  cases r with
  | none => rfl
  | some r => exact Tr.has_put _ _ _ _
theorem refine1_like (r : Option (Nat × Bool)) (l : Tr SV) : (refine1 r l).like l := by
  cases r with
  | none => exact Tr.like_refl _
  | some r => exact Tr.like_put _ _ _
theorem at'_setD {α : Type _} (d : Option Nat) (v e : α) (l : Tr α) (j : Nat) : (setD d v l).get j e = if d = some j ∧ l.has j = true then v else l.get j e := by
  cases d with
  | none => simp [setD]
  | some d => simp [setD, Tr.get_put]
theorem at'_refine1 (r : Option (Nat × Bool)) (l : Tr SV) (j : Nat) : (refine1 r l).get j .junk = match r with
    | some (g, b) => if g = j ∧ l.has j = true then lit b else l.get j .junk
    | none => l.get j .junk := by
  cases r with
  | none => rfl
  | some r => obtain ⟨g, b⟩ := r; simp [refine1, Tr.get_put]

section
variable {E : Env} {all : List Oper} {x y : Oper} {s s1 t : ASt}
theorem indep_spec (h : indep E.bs all x y = true) :
    (∀ d, x.dst = some d → d ∉ tmpsIn y.op ∧ d ∉ gIn all y ∧ y.dst ≠ some d) ∧ (∀ d, y.dst = some d → d ∉ tmpsIn x.op ∧ d ∉ gIn all x) ∧
    (∀ g ∈ gIn all x, g ∉ tmpsIn y.op) ∧ (∀ g ∈ gIn all y, g ∉ tmpsIn x.op) ∧
    (memW E.bs x.op = true → (memR y.op = false ∧ memW E.bs y.op = false) ∨ (qp E.bs x.op y.op = true)) ∧ (memW E.bs y.op = true → (memR x.op = false ∨ memA y.op = true ∨ (qp E.bs y.op x.op = true)) ∧ memW E.bs x.op = false) ∧ ((isApp x.op = none ∧ (isApp y.op = none ∨ (easy x.op = true ∧ x.guard = none ∧ y.guard = none ∧ hasVec E.bs = false))) ∨ (isApp x.op ≠ none ∧ isApp y.op = none ∧ easy y.op = true ∧ x.guard = none ∧ y.guard = none ∧ hasVec E.bs = false)) ∧ isFrz E.bs x = none ∧ isFrz E.bs y = none := by
  unfold indep at h
  simp only [Bool.and_eq_true] at h
  obtain ⟨⟨⟨⟨⟨⟨⟨⟨h1, h2⟩, h3⟩, h4⟩, h5⟩, h6⟩, h8⟩, h9⟩, h10⟩ := h
  refine ⟨?_, ?_, ?_, ?_, ?_, ?_, ?_, by simpa using h9, by simpa using h10⟩
  case refine_7 =>
    cases hx : isApp x.op with
    | none =>
      rw [hx] at h8
      exact .inl ⟨rfl, by simpa [and_assoc] using h8⟩
    | some z =>
      rw [hx] at h8
      exact .inr ⟨by simp, by simpa [and_assoc] using h8⟩
  · intro d hd
    rw [hd] at h1
    simpa [and_assoc] using h1
  · intro d hd
    rw [hd] at h2
    simpa using h2
  · intro g hg
    have := List.all_eq_true.1 h3 g hg
    simpa using this
  · intro g hg
    have := List.all_eq_true.1 h4 g hg
    simpa using this
  · intro hw
    rw [hw] at h5
    cases hq : qp E.bs x.op y.op with
    | true => exact .inr rfl
    | false => rw [hq] at h5; exact .inl (by simpa using h5)
  · intro hw
    rw [hw] at h6 h5
    constructor
    · cases h9 : memR x.op with
      | false => exact .inl rfl
      | true =>
        rw [h9] at h6
        cases hq : qp E.bs y.op x.op with
        | true => exact .inr (.inr rfl)
        | false => rw [hq] at h6; exact .inr (.inl (by simpa using h6))
    · cases hx : memW E.bs x.op with
      | false => rfl
      | true =>
        rw [hx] at h5
        cases hq : qp E.bs x.op y.op with
        | true =>
          cases hy : y.op <;> rw [hy] at hq hw <;> first | (simp [memW] at hw; done) | (simp [qp, isQL, isSL] at hq; done)
        | false => rw [hq] at h5; simp at h5

theorem ev_same {f f' : Tr SV} {bx bx' : Tr (Option (List SV))} {op : Op} (h : ∀ t ∈ tmpsIn op, f.get t .junk = f'.get t .junk) : ∀ z ∈ op.operands, ev ⟨f, bx⟩ z = ev ⟨f', bx'⟩ z := by
  intro z hz
  cases z with
  | tmp t => exact h t (mem_tmpsIn hz)
  | _ => rfl

theorem dgrs_drop (i j : Nat) : ∀ (o : Nat) (l : List SV), dgr.dgrs i j (dropN o l) = dropN o (dgr.dgrs i j l)
  | 0, _ => rfl
  | _ + 1, [] => rfl
  | o + 1, _ :: xs => dgrs_drop i j o xs
theorem dgrs_take (i j : Nat) : ∀ (o : Nat) (l : List SV), dgr.dgrs i j (takeN o l) = takeN o (dgr.dgrs i j l)
  | 0, _ => rfl
  | _ + 1, [] => rfl
  | o + 1, x :: xs => by simp only [takeN, dgr.dgrs, dgrs_take i j o xs]
theorem whole_dgr (i j : Nat) (agg : Bool) (l : List SV) : whole agg (dgr.dgrs i j l) = dgr i j (whole agg l) := by
  cases agg with
  | true => rfl
  | false => exact at'_dgrs i j l 0
mutual
theorem dgr_free (i j : Nat) : ∀ (x : SV), ownFree x = true → dgr i j x = x
  | .own .., h => by simp [ownFree] at h
  | .agg l, h => by simp only [dgr]; rw [dgrs_free i j l (by simpa [ownFree] using h)]
  | .tup l, h => by simp only [dgr]; rw [dgrs_free i j l (by simpa [ownFree] using h)]
  | .fn g l, h => by simp only [dgr]; rw [dgrs_free i j l (by simpa [ownFree] using h)]
  | .val _, h => rfl
  | .tt, h => rfl
  | .ff, h => rfl
  | .row .., h => rfl
  | .elt .., h => rfl
  | .box .., h => rfl
  | .arr .., h => rfl
  | .plc .., h => rfl
  | .many .., h => rfl
  | .ifc, h => rfl
  | .e0, h => rfl
  | .nb _, h => rfl
  | .junk, h => rfl
theorem dgrs_free (i j : Nat) : ∀ (l : List SV), ownFree.ownFrees l = true → dgr.dgrs i j l = l
  | [], _ => rfl
  | x :: xs, h => by
    simp only [ownFree.ownFrees] at h
    cases hx : ownFree x with
    | false => rw [hx] at h; cases h
    | true => rw [hx] at h; simp only [dgr.dgrs]; rw [dgr_free i j x hx, dgrs_free i j xs h]
end
/-- what only looks at a variable comes to the same where a row grew before -/
theorem easy_dgr {E : Env} {d : Nat} {op : Op} {fr fr' : Tr SV} {bx : Tr (Option (List SV))} {v : SV} {i j : Nat} (he : easy op = true) (hf : ∀ q ∈ tmpsIn op, fr'.get q .junk = dgr i j (fr.get q .junk))
    (h : ∀ k' : SV → Tr (Option (List SV)) → Prop, k' v bx → stepB E d op (ev ⟨fr, bx⟩) bx k') (k' : SV → Tr (Option (List SV)) → Prop) (hk : k' (dgr i j v) (dgrB i j bx)) :
    stepB E d op (ev ⟨fr', dgrB i j bx⟩) (dgrB i j bx) k' := by
  have h0 := h (fun v' b' => v' = v) rfl
  cases op with
  | move x =>
    cases x with
    | tmp q =>
      simp only [stepB, force_eq] at h0 ⊢
      have := hf q (by simp [tmpsIn, Op.operands])
      show k' (fr'.get q .junk) _
      rw [this, show fr.get q .junk = v from h0]; exact hk
    | _ => simp [easy] at he
  | fieldAddr t x f =>
    cases x with
    | tmp q =>
      have hq := hf q (by simp [tmpsIn, Op.operands])
      simp only [stepB, ev] at h0 ⊢
      rw [hq]
      cases hx : fr.get q .junk with
      | box b o =>
        rw [hx] at h0
        simp only [dgr] at h0 ⊢
        obtain ⟨ti, h1, h2⟩ := tiK_rel h0
        obtain ⟨z, u, h3, h4⟩ := fldK_rel h2
        refine h1 _ (h3 _ ?_)
        rw [← h4] at hk
        exact hk
      | elt X z cs dd l n o =>
        rw [hx] at h0
        simp only [dgr] at h0 ⊢
        obtain ⟨ti, h1, h2⟩ := tiK_rel h0
        obtain ⟨z, u, h3, h4⟩ := fldK_rel h2
        refine h1 _ (h3 _ ?_)
        rw [← h4] at hk
        exact hk
      | plc b z n o =>
        rw [hx] at h0
        simp only [dgr] at h0 ⊢
        obtain ⟨ti, h1, h2⟩ := tiK_rel h0
        obtain ⟨z, u, h3, h4⟩ := fldK_rel h2
        refine h1 _ (h3 _ ?_)
        rw [← h4] at hk
        exact hk
      | _ => rw [hx] at h0; exact h0.elim
    | _ => simp [easy] at he
  | load t x =>
    cases x with
    | tmp q =>
      have hq := hf q (by simp [tmpsIn, Op.operands])
      simp only [stepB, ev] at h0 ⊢
      rw [hq]
      suffices hs : (tiK E.ty t fun t => loadK t (fr.get q .junk) bx fun v' => v' = v) → (tiK E.ty t fun t => loadK t (dgr i j (fr.get q .junk)) (dgrB i j bx) fun v => k' v (dgrB i j bx)) by
        cases hql : qLoad E.bs (.tmp q) with
        | false =>
          rw [hql] at h0
          simp only at h0 ⊢
          cases hql2 : sLoad E.bs (.tmp q) with
          | false => rw [hql2] at h0; exact hs h0
          | true =>
            rw [hql2] at h0
            simp only at h0 ⊢
            cases hqb : isSB E.bs (fr.get q .junk) with
            | false => rw [hqb] at h0; exact h0.elim
            | true =>
              rw [hqb] at h0
              have : isSB E.bs (dgr i j (fr.get q .junk)) = true := by
                cases hx : fr.get q .junk with
                | box b o => rw [hx] at hqb; exact hqb
                | _ => rw [hx] at hqb; cases hqb
              rw [this]
              exact hs h0
        | true =>
          rw [hql] at h0
          simp only at h0 ⊢
          cases hqb : isQB E.bs (fr.get q .junk) with
          | false => rw [hqb] at h0; exact h0.elim
          | true =>
            rw [hqb] at h0
            have : isQB E.bs (dgr i j (fr.get q .junk)) = true := by
              cases hx : fr.get q .junk with
              | box b o => rw [hx] at hqb; exact hqb
              | _ => rw [hx] at hqb; cases hqb
            rw [this]
            exact hs h0
      clear h0
      intro h0
      obtain ⟨ti, h1, h2⟩ := tiK_rel h0
      refine h1 _ ?_
      cases hx : fr.get q .junk with
      | box b o =>
        rw [hx] at h2
        simp only [dgr, loadK] at h2 ⊢
        rw [dgrB_get]
        cases hb : bx.get b none with
        | none => rw [hb] at h2; exact h2.elim
        | some cs =>
          rw [hb] at h2
          simp only [Option.map_some, dgrs_length] at h2 ⊢
          cases hpl : plain cs with
          | false => rw [hpl] at h2; exact h2.elim
          | true =>
          rw [hpl] at h2
          have hpl2 : plain (dgr.dgrs i j cs) = true := by
            match cs, hpl with
            | x :: xs, hpl =>
              have e1 : plain (x :: xs) = !(isMany [x]) := by cases x <;> rfl
              have e2 : plain (dgr.dgrs i j (x :: xs)) = !(isMany [dgr i j x]) := by
                show plain (dgr i j x :: dgr.dgrs i j xs) = _
                cases dgr i j x <;> rfl
              rw [e2]
              rw [e1] at hpl
              rcases (dgr_mapOk i j).many x with ⟨c, -⟩ | ⟨-, c⟩
              · rw [c] at hpl; cases hpl
              · rw [c]; rfl
          rw [hpl2]
          simp only at h2 ⊢
          cases hl : Nat.ble (o + ti.size) cs.length with
          | false => rw [hl] at h2; exact h2.elim
          | true =>
            rw [hl] at h2
            simp only [wholeK_eq] at h2 ⊢
            rw [← dgrs_drop, ← dgrs_take, whole_dgr, h2]; exact hk
      | plc b z n o =>
        rw [hx] at h2
        simp only [dgr, loadK] at h2 ⊢
        rw [dgrB_get]
        cases hb : bx.get b none with
        | none => rw [hb] at h2; exact h2.elim
        | some cs =>
          rw [hb] at h2
          simp only [Option.map_some] at h2 ⊢
          obtain ⟨T, sz, c, d, l, rfl, g2⟩ := manyK_elim h2
          show manyK [SV.many T sz c d l] _
          show (match Nat.beq z sz with
            | true => match Nat.ble (o + ti.size) sz with
              | true => match ownFree.ownFrees (takeN ti.size (dropN o (c (l.getD n.toNat d)))) with
                | true => (0 ≤ n ∧ n < (l.length : Int)) ∧ wholeK ti.agg (takeN ti.size (dropN o (c (l.getD n.toNat d)))) (fun v => k' v (dgrB i j bx))
                | false => False
              | false => False
            | false => False)
          cases hz : Nat.beq z sz with
          | false => rw [hz] at g2; exact g2.elim
          | true =>
          rw [hz] at g2
          simp only at g2 ⊢
          cases hl : Nat.ble (o + ti.size) sz with
          | false => rw [hl] at g2; exact g2.elim
          | true =>
          rw [hl] at g2
          simp only at g2 ⊢
          cases hfr : ownFree.ownFrees (takeN ti.size (dropN o (c (l.getD n.toNat d)))) with
          | false => rw [hfr] at g2; exact g2.elim
          | true =>
          rw [hfr] at g2
          simp only [wholeK_eq] at g2 ⊢
          have e : dgr i j v = v := by
            rw [← g2.2, ← whole_dgr, dgrs_free i j _ hfr]
          refine ⟨g2.1, ?_⟩
          rw [g2.2, ← e]; exact hk
      | elt X z cs dd l n o =>
        rw [hx] at h2
        simp only [dgr, loadK] at h2 ⊢
        cases hl : Nat.ble (o + ti.size) z with
        | false => rw [hl] at h2; exact h2.elim
        | true =>
          rw [hl] at h2
          simp only at h2 ⊢
          cases hfr : ownFree.ownFrees (takeN ti.size (dropN o (cs (l.getD n.toNat dd)))) with
          | false => rw [hfr] at h2; exact h2.elim
          | true =>
            rw [hfr] at h2
            simp only [wholeK_eq] at h2 ⊢
            have e : dgr i j v = v := by
              rw [← h2, ← whole_dgr, dgrs_free i j _ hfr]
            rw [h2, ← e]; exact hk
      | _ => rw [hx] at h2; exact h2.elim
    | _ => simp [easy] at he
  | _ => simp [easy] at he
theorem swapApp (hi : indep E.bs all x y = true) (hya : isApp y.op ≠ none) (h1 : Step1 E all x s s1) (h2 : Step1 E all y s1 t) : ∃ s2, Step1 E all y s s2 ∧ Step1 E all x s2 t := by
  obtain ⟨ix, iy, igx, igy, imx, imy, iaa, izx, izy⟩ := indep_spec hi
  obtain ⟨iax, iay⟩ : isApp x.op = none ∧ (isApp y.op = none ∨ (easy x.op = true ∧ x.guard = none ∧ y.guard = none ∧ hasVec E.bs = false)) := by
    rcases iaa with c | c
    · exact c
    · exact absurd c.2.1 hya
  obtain ⟨he, hgx, hgy, hvc⟩ : easy x.op = true ∧ x.guard = none ∧ y.guard = none ∧ hasVec E.bs = false := by
    rcases iay with c | c
    · exact absurd c hya
    · exact c
  have hmw : memW E.bs x.op = false := by
    cases ho : x.op <;> rw [ho] at he <;> first | rfl | (simp [easy] at he; done)
  cases h1 with
  | run s' s0 j b g hg => rw [hgx] at hg; cases hg
  | skip s0 j b g hg => rw [hgx] at hg; cases hg
  | void j b g z hg => rw [hgx] at hg; cases hg
  | plain _ _ h1 =>
  cases h2 with
  | run s' s0 j b g hg => rw [hgy] at hg; cases hg
  | skip s0 j b g hg => rw [hgy] at hg; cases hg
  | void j b g z hg => rw [hgy] at hg; cases hg
  | plain _ _ h2 =>
  rcases h1 with ⟨hnx, -, v, b, hstep, rfl⟩ | ⟨_, _, _, _, hb, -⟩ | ⟨hb, -, -⟩
  case inr.inl => rw [iax] at hb; cases hb
  case inr.inr => rw [hvc] at hb; cases hb
  obtain rfl := stepB_keeps hmw hstep
  rcases h2 with ⟨hny, -⟩ | ⟨X, Y, ty, d, hap, hd, happ⟩ | ⟨hb, -, -⟩
  · exact absurd hny hya
  case inr.inr => rw [hvc] at hb; cases hb
  obtain ⟨id, o, h3, h4⟩ := appK_inv (happ (fun t' => t' = t) rfl)
  obtain ⟨hxd, hxg⟩ := iy d hd
  have hev : ∀ z ∈ y.op.operands, ev ⟨setD x.dst v s.fr, s.bx⟩ z = ev s z := ev_same (f := setD x.dst v s.fr) (f' := s.fr) (bx := s.bx) (bx' := s.bx) fun q hq => by
    rw [at'_setD, if_neg (fun c => (ix q c.1).1 hq)]
  have hop := isApp_eq hap
  have hX : ev ⟨setD x.dst v s.fr, s.bx⟩ X = ev s X := hev X (by rw [hop]; simp [Op.operands, Call.operands])
  have hY : ev ⟨setD x.dst v s.fr, s.bx⟩ Y = ev s Y := hev Y (by rw [hop]; simp [Op.operands, Call.operands])
  rw [hX, hY] at h4
  refine ⟨⟨(dgrT id d s.fr).put d o, dgrB id d s.bx⟩, .plain _ hgy (.inr (.inl ⟨X, Y, ty, d, hap, hd, fun K hK => h4 s K hK⟩)), .plain _ hgx (.inl ⟨hnx, izx, dgr id d v, dgrB id d s.bx, ?_, ?_⟩)⟩
  · intro k' hk'
    refine easy_dgr (fr := s.fr) (fr' := (dgrT id d s.fr).put d o) he (fun q hq => ?_) hstep k' hk'
    rw [Tr.get_put, if_neg (fun (c : d = q ∧ (dgrT id d s.fr).has q = true) => hxd (c.1 ▸ hq)), dgrT_get]
  · rw [← h3]
    congr 1
    refine Tr.ext SV.junk ?_ ?_
    · have l1 : ((dgrT id d (setD x.dst v s.fr)).put d o).like s.fr := Tr.like_trans (Tr.like_put _ _ _) (dgrT_like _ _ (setD_like _ _ _))
      have l2 : (setD x.dst (dgr id d v) ((dgrT id d s.fr).put d o)).like s.fr := Tr.like_trans (setD_like _ _ _) (Tr.like_trans (Tr.like_put _ _ _) (dgrT_like _ _ (Tr.like_refl _)))
      exact Tr.like_trans l1 (Tr.like_symm l2)
    · intro q hq
      have hq : s.fr.has q = true := by
        simp only [Tr.has_put, dgrT_has, setD_has] at hq; exact hq
      show ((dgrT id d (setD x.dst v s.fr)).put d o).get q .junk = (setD x.dst (dgr id d v) ((dgrT id d s.fr).put d o)).get q .junk
      have L : ((dgrT id d (setD x.dst v s.fr)).put d o).get q .junk = if d = q then o else dgr id d ((setD x.dst v s.fr).get q .junk) := by
        rw [Tr.get_put, dgrT_get]
        by_cases e : d = q
        · rw [if_pos ⟨e, by rw [dgrT_has, setD_has]; exact hq⟩, if_pos e]
        · rw [if_neg (fun c => e c.1), if_neg e]
      have R : (setD x.dst (dgr id d v) ((dgrT id d s.fr).put d o)).get q .junk = if x.dst = some q then dgr id d v else ((dgrT id d s.fr).put d o).get q .junk := by
        rw [at'_setD]
        by_cases e : x.dst = some q
        · rw [if_pos ⟨e, by rw [Tr.has_put, dgrT_has]; exact hq⟩, if_pos e]
        · rw [if_neg (fun c => e c.1), if_neg e]
      have R2 : ((dgrT id d s.fr).put d o).get q .junk = if d = q then o else dgr id d (s.fr.get q .junk) := by
        rw [Tr.get_put, dgrT_get]
        by_cases e : d = q
        · rw [if_pos ⟨e, by rw [dgrT_has]; exact hq⟩, if_pos e]
        · rw [if_neg (fun c => e c.1), if_neg e]
      have L2 : (setD x.dst v s.fr).get q .junk = if x.dst = some q then v else s.fr.get q .junk := by
        rw [at'_setD]
        by_cases e : x.dst = some q
        · rw [if_pos ⟨e, hq⟩, if_pos e]
        · rw [if_neg (fun c => e c.1), if_neg e]
      rw [L, R, R2, L2]
      by_cases e1 : d = q
      · rw [if_pos e1, if_neg (fun c => (ix q c).2.2 (e1 ▸ hd)), if_pos e1]
      · rw [if_neg e1, if_neg e1]
        by_cases e2 : x.dst = some q
        · rw [if_pos e2, if_pos e2]
        · rw [if_neg e2, if_neg e2]
theorem dgr_own (i j : Nat) (T : Type) (sz : Nat) (cs : T → List SV) (d : T) (l : List T) (id : Nat) : dgr i j (.own T sz cs d l id) = .own T sz cs d l id ∨ dgr i j (.own T sz cs d l id) = .row T sz cs d l := by
  simp only [dgr]
  cases Nat.beq id i with
  | true => exact .inr rfl
  | false => cases Nat.beq id j with
    | true => exact .inr rfl
    | false => exact .inl rfl
/-- .. and the other way about: what it comes to behind a row's growth comes from what it came to ahead of it -/
theorem easy_undgr {E : Env} {d : Nat} {op : Op} {fr fr' : Tr SV} {bx : Tr (Option (List SV))} {v : SV} {i j : Nat} (he : easy op = true) (hf : ∀ q ∈ tmpsIn op, fr'.get q .junk = dgr i j (fr.get q .junk))
    (h : ∀ k' : SV → Tr (Option (List SV)) → Prop, k' v (dgrB i j bx) → stepB E d op (ev ⟨fr', dgrB i j bx⟩) (dgrB i j bx) k') :
    ∃ u, dgr i j u = v ∧ ∀ k' : SV → Tr (Option (List SV)) → Prop, k' u bx → stepB E d op (ev ⟨fr, bx⟩) bx k' := by
  have h0 := h (fun v' b' => v' = v) rfl
  cases op with
  | move x =>
    cases x with
    | tmp q =>
      simp only [stepB, force_eq] at h0 ⊢
      have := hf q (by simp [tmpsIn, Op.operands])
      refine ⟨fr.get q .junk, ?_, fun k' hk => hk⟩
      rw [← this]; exact h0
    | _ => simp [easy] at he
  | fieldAddr t x f =>
    cases x with
    | tmp q =>
      have hq := hf q (by simp [tmpsIn, Op.operands])
      simp only [stepB, ev] at h0 ⊢
      rw [hq] at h0
      cases hx : fr.get q .junk with
      | box b o =>
        rw [hx] at h0
        simp only [dgr] at h0 ⊢
        obtain ⟨ti, h1, h2⟩ := tiK_rel h0
        obtain ⟨z, u, h3, h4⟩ := fldK_rel h2
        exact ⟨_, (show dgr i j (.box b (o + z)) = v from h4), fun k' hk => h1 _ (h3 _ hk)⟩
      | elt X z cs dd l n o =>
        rw [hx] at h0
        simp only [dgr] at h0 ⊢
        obtain ⟨ti, h1, h2⟩ := tiK_rel h0
        obtain ⟨z, u, h3, h4⟩ := fldK_rel h2
        exact ⟨_, (show dgr i j (.elt X _ cs dd l n (o + z)) = v from h4), fun k' hk => h1 _ (h3 _ hk)⟩
      | plc b z n o =>
        rw [hx] at h0
        simp only [dgr] at h0 ⊢
        obtain ⟨ti, h1, h2⟩ := tiK_rel h0
        obtain ⟨z, u, h3, h4⟩ := fldK_rel h2
        exact ⟨_, (show dgr i j (.plc b _ n (o + z)) = v from h4), fun k' hk => h1 _ (h3 _ hk)⟩
      | own X z cs dd l id =>
        rw [hx] at h0
        rcases dgr_own i j X z cs dd l id with e | e <;> rw [e] at h0 <;> exact h0.elim
      | _ => rw [hx] at h0; exact h0.elim
    | _ => simp [easy] at he
  | load t x =>
    cases x with
    | tmp q =>
      have hq := hf q (by simp [tmpsIn, Op.operands])
      simp only [stepB, ev] at h0 ⊢
      rw [hq] at h0
      suffices hs : (tiK E.ty t fun t => loadK t (dgr i j (fr.get q .junk)) (dgrB i j bx) fun v' => v' = v) → ∃ u, dgr i j u = v ∧ ∀ k' : SV → Tr (Option (List SV)) → Prop, k' u bx → tiK E.ty t fun t => loadK t (fr.get q .junk) bx fun v => k' v bx by
        cases hql : qLoad E.bs (.tmp q) with
        | false =>
          rw [hql] at h0
          simp only at h0 ⊢
          cases hql2 : sLoad E.bs (.tmp q) with
          | false => rw [hql2] at h0; exact hs h0
          | true =>
            rw [hql2] at h0
            simp only at h0 ⊢
            cases hqb : isSB E.bs (dgr i j (fr.get q .junk)) with
            | false => rw [hqb] at h0; exact h0.elim
            | true =>
              rw [hqb] at h0
              have : isSB E.bs (fr.get q .junk) = true := by
                cases hx : fr.get q .junk with
                | box b o => rw [hx] at hqb; exact hqb
                | own X z cs dd l id => rw [hx] at hqb; rcases dgr_own i j X z cs dd l id with e | e <;> rw [e] at hqb <;> cases hqb
                | _ => rw [hx] at hqb; cases hqb
              rw [this]
              exact hs h0
        | true =>
          rw [hql] at h0
          simp only at h0 ⊢
          cases hqb : isQB E.bs (dgr i j (fr.get q .junk)) with
          | false => rw [hqb] at h0; exact h0.elim
          | true =>
            rw [hqb] at h0
            have : isQB E.bs (fr.get q .junk) = true := by
              cases hx : fr.get q .junk with
              | box b o => rw [hx] at hqb; exact hqb
              | own X z cs dd l id => rw [hx] at hqb; rcases dgr_own i j X z cs dd l id with e | e <;> rw [e] at hqb <;> cases hqb
              | _ => rw [hx] at hqb; cases hqb
            rw [this]
            exact hs h0
      clear h0
      intro h0
      obtain ⟨ti, h1, h2⟩ := tiK_rel h0
      suffices hs : ∃ u, dgr i j u = v ∧ ∀ k' : SV → Tr (Option (List SV)) → Prop, k' u bx → loadK ti (fr.get q .junk) bx fun v => k' v bx by
        obtain ⟨u, hu, hk⟩ := hs
        exact ⟨u, hu, fun k' h => h1 _ (hk k' h)⟩
      cases hx : fr.get q .junk with
      | box b o =>
        rw [hx] at h2
        simp only [dgr, loadK] at h2 ⊢
        rw [dgrB_get] at h2
        cases hb : bx.get b none with
        | none => rw [hb] at h2; exact h2.elim
        | some cs =>
          rw [hb] at h2
          simp only [Option.map_some, dgrs_length] at h2 ⊢
          have hpq : plain (dgr.dgrs i j cs) = plain cs := by
            match cs with
            | [] => rfl
            | x :: xs =>
              have e1 : plain (x :: xs) = !(isMany [x]) := by cases x <;> rfl
              have e2 : plain (dgr.dgrs i j (x :: xs)) = !(isMany [dgr i j x]) := by
                show plain (dgr i j x :: dgr.dgrs i j xs) = _
                cases dgr i j x <;> rfl
              rw [e1, e2]
              rcases (dgr_mapOk i j).many x with ⟨c, e⟩ | ⟨c, e⟩
              · rw [e]
              · rw [c, e]
          rw [hpq] at h2
          cases hpl : plain cs with
          | false => rw [hpl] at h2; exact h2.elim
          | true =>
          rw [hpl] at h2
          simp only at h2 ⊢
          cases hl : Nat.ble (o + ti.size) cs.length with
          | false => rw [hl] at h2; exact h2.elim
          | true =>
            rw [hl] at h2
            simp only [wholeK_eq] at h2 ⊢
            rw [← dgrs_drop, ← dgrs_take, whole_dgr] at h2
            exact ⟨_, h2, fun k' hk => hk⟩
      | plc b z n o =>
        rw [hx] at h2
        simp only [dgr, loadK] at h2 ⊢
        rw [dgrB_get] at h2
        cases hb : bx.get b none with
        | none => rw [hb] at h2; exact h2.elim
        | some cs =>
          rw [hb] at h2
          simp only [Option.map_some] at h2 ⊢
          obtain ⟨T, sz, c, d, l, hcs, g2⟩ := manyK_elim h2
          obtain rfl : cs = [.many T sz c d l] := by
            match cs, hcs with
            | [], hcs => simp [dgr.dgrs] at hcs
            | _ :: _ :: _, hcs => simp [dgr.dgrs] at hcs
            | [x], hcs =>
              simp only [dgr.dgrs, List.cons.injEq, and_true] at hcs
              rcases (dgr_mapOk i j).many x with ⟨e1, e2⟩ | ⟨e1, e2⟩
              · rw [e2] at hcs; rw [hcs]
              · rw [hcs] at e2; cases e2
          show ∃ u, dgr i j u = v ∧ ∀ k' : SV → Tr (Option (List SV)) → Prop, k' u bx → (match Nat.beq z sz with
            | true => match Nat.ble (o + ti.size) sz with
              | true => match ownFree.ownFrees (takeN ti.size (dropN o (c (l.getD n.toNat d)))) with
                | true => (0 ≤ n ∧ n < (l.length : Int)) ∧ wholeK ti.agg (takeN ti.size (dropN o (c (l.getD n.toNat d)))) (fun v => k' v bx)
                | false => False
              | false => False
            | false => False)
          cases hz : Nat.beq z sz with
          | false => rw [hz] at g2; exact g2.elim
          | true =>
          rw [hz] at g2
          simp only at g2 ⊢
          cases hl : Nat.ble (o + ti.size) sz with
          | false => rw [hl] at g2; exact g2.elim
          | true =>
          rw [hl] at g2
          simp only at g2 ⊢
          cases hfr : ownFree.ownFrees (takeN ti.size (dropN o (c (l.getD n.toNat d)))) with
          | false => rw [hfr] at g2; exact g2.elim
          | true =>
          rw [hfr] at g2
          simp only [wholeK_eq] at g2 ⊢
          refine ⟨_, ?_, fun k' hk => ⟨g2.1, hk⟩⟩
          rw [← whole_dgr, dgrs_free i j _ hfr]; exact g2.2
      | elt X z cs dd l n o =>
        rw [hx] at h2
        simp only [dgr, loadK] at h2 ⊢
        cases hl : Nat.ble (o + ti.size) z with
        | false => rw [hl] at h2; exact h2.elim
        | true =>
          rw [hl] at h2
          simp only at h2 ⊢
          cases hfr : ownFree.ownFrees (takeN ti.size (dropN o (cs (l.getD n.toNat dd)))) with
          | false => rw [hfr] at h2; exact h2.elim
          | true =>
            rw [hfr] at h2
            simp only [wholeK_eq] at h2 ⊢
            refine ⟨_, ?_, fun k' hk => hk⟩
            rw [← whole_dgr, dgrs_free i j _ hfr]; exact h2
      | own X z cs dd l id =>
        rw [hx] at h2
        rcases dgr_own i j X z cs dd l id with e | e <;> rw [e] at h2 <;> exact h2.elim
      | _ => rw [hx] at h2; exact h2.elim
    | _ => simp [easy] at he
  | _ => simp [easy] at he
theorem swapApp2 (hi : indep E.bs all x y = true) (hxa : isApp x.op ≠ none) (h1 : Step1 E all x s s1) (h2 : Step1 E all y s1 t) : ∃ s2, Step1 E all y s s2 ∧ Step1 E all x s2 t := by
  obtain ⟨ix, iy, igx, igy, imx, imy, iaa, izx, izy⟩ := indep_spec hi
  obtain ⟨hya, he, hgx, hgy, hvc⟩ : isApp y.op = none ∧ easy y.op = true ∧ x.guard = none ∧ y.guard = none ∧ hasVec E.bs = false := by
    rcases iaa with c | c
    · exact absurd c.1 hxa
    · exact c.2
  have hmw : memW E.bs y.op = false := by
    cases ho : y.op <;> rw [ho] at he <;> first | rfl | (simp [easy] at he; done)
  cases h1 with
  | run s' s0 j b g hg => rw [hgx] at hg; cases hg
  | skip s0 j b g hg => rw [hgx] at hg; cases hg
  | void j b g z hg => rw [hgx] at hg; cases hg
  | plain _ _ h1 =>
  cases h2 with
  | run s' s0 j b g hg => rw [hgy] at hg; cases hg
  | skip s0 j b g hg => rw [hgy] at hg; cases hg
  | void j b g z hg => rw [hgy] at hg; cases hg
  | plain _ _ h2 =>
  rcases h1 with ⟨hnx, -⟩ | ⟨X, Y, ty, d, hap, hd, happ⟩ | ⟨hb, -, -⟩
  · exact absurd hnx hxa
  case inr.inr => rw [hvc] at hb; cases hb
  obtain ⟨id, o, h3, h4⟩ := appK_inv (happ (fun t' => t' = s1) rfl)
  subst h3
  rcases h2 with ⟨hny, -, v, b, hstep, rfl⟩ | ⟨_, _, _, _, hb, -⟩ | ⟨hb, -, -⟩
  case inr.inl => rw [hya] at hb; cases hb
  case inr.inr => rw [hvc] at hb; cases hb
  obtain rfl := stepB_keeps hmw hstep
  obtain ⟨hyd, hyg, hyx⟩ := ix d hd
  obtain ⟨u, hu, hku⟩ := easy_undgr (fr := s.fr) (fr' := (dgrT id d s.fr).put d o) he (fun q hq => by
    rw [Tr.get_put, if_neg (fun (c : d = q ∧ (dgrT id d s.fr).has q = true) => hyd (c.1 ▸ hq)), dgrT_get]) hstep
  have hop := isApp_eq hap
  have hev : ∀ z ∈ x.op.operands, ev ⟨setD y.dst u s.fr, s.bx⟩ z = ev s z := ev_same (f := setD y.dst u s.fr) (f' := s.fr) (bx := s.bx) (bx' := s.bx) fun q hq => by
    rw [at'_setD, if_neg (fun c => (iy q c.1).1 hq)]
  have hX : ev ⟨setD y.dst u s.fr, s.bx⟩ X = ev s X := hev X (by rw [hop]; simp [Op.operands, Call.operands])
  have hY : ev ⟨setD y.dst u s.fr, s.bx⟩ Y = ev s Y := hev Y (by rw [hop]; simp [Op.operands, Call.operands])
  refine ⟨⟨setD y.dst u s.fr, s.bx⟩, .plain _ hgy (.inl ⟨hny, izy, u, s.bx, hku, rfl⟩), .plain _ hgx (.inr (.inl ⟨X, Y, ty, d, hap, hd, fun K hK => ?_⟩))⟩
  rw [hX, hY]
  refine h4 ⟨setD y.dst u s.fr, s.bx⟩ K ?_
  have e : (dgrT id d (setD y.dst u s.fr)).put d o = setD y.dst v ((dgrT id d s.fr).put d o) := by
    refine Tr.ext SV.junk ?_ ?_
    · have l1 : ((dgrT id d (setD y.dst u s.fr)).put d o).like s.fr := Tr.like_trans (Tr.like_put _ _ _) (dgrT_like _ _ (setD_like _ _ _))
      have l2 : (setD y.dst v ((dgrT id d s.fr).put d o)).like s.fr := Tr.like_trans (setD_like _ _ _) (Tr.like_trans (Tr.like_put _ _ _) (dgrT_like _ _ (Tr.like_refl _)))
      exact Tr.like_trans l1 (Tr.like_symm l2)
    · intro q hq
      have hq : s.fr.has q = true := by
        simp only [Tr.has_put, dgrT_has, setD_has] at hq; exact hq
      have L : ((dgrT id d (setD y.dst u s.fr)).put d o).get q .junk = if d = q then o else dgr id d ((setD y.dst u s.fr).get q .junk) := by
        rw [Tr.get_put, dgrT_get]
        by_cases e : d = q
        · rw [if_pos ⟨e, by rw [dgrT_has, setD_has]; exact hq⟩, if_pos e]
        · rw [if_neg (fun c => e c.1), if_neg e]
      have R : (setD y.dst v ((dgrT id d s.fr).put d o)).get q .junk = if y.dst = some q then v else ((dgrT id d s.fr).put d o).get q .junk := by
        rw [at'_setD]
        by_cases e : y.dst = some q
        · rw [if_pos ⟨e, by rw [Tr.has_put, dgrT_has]; exact hq⟩, if_pos e]
        · rw [if_neg (fun c => e c.1), if_neg e]
      have R2 : ((dgrT id d s.fr).put d o).get q .junk = if d = q then o else dgr id d (s.fr.get q .junk) := by
        rw [Tr.get_put, dgrT_get]
        by_cases e : d = q
        · rw [if_pos ⟨e, by rw [dgrT_has]; exact hq⟩, if_pos e]
        · rw [if_neg (fun c => e c.1), if_neg e]
      have L2 : (setD y.dst u s.fr).get q .junk = if y.dst = some q then u else s.fr.get q .junk := by
        rw [at'_setD]
        by_cases e : y.dst = some q
        · rw [if_pos ⟨e, hq⟩, if_pos e]
        · rw [if_neg (fun c => e c.1), if_neg e]
      rw [L, R, R2, L2]
      by_cases e1 : d = q
      · rw [if_pos e1, if_neg (fun c => hyx (e1 ▸ c)), if_pos e1]
      · rw [if_neg e1, if_neg e1]
        by_cases e2 : y.dst = some q
        · rw [if_pos e2, if_pos e2, hu]
        · rw [if_neg e2, if_neg e2]
  show K ⟨(dgrT id d (setD y.dst u s.fr)).put d o, dgrB id d s.bx⟩
  rw [e]; exact hK
theorem swap (hi : indep E.bs all x y = true) (h1 : Step1 E all x s s1) (h2 : Step1 E all y s1 t) : ∃ s2, Step1 E all y s s2 ∧ Step1 E all x s2 t := by
  by_cases hya : isApp y.op = none
  case neg => exact swapApp hi hya h1 h2
  by_cases hxa : isApp x.op = none
  case neg => exact swapApp2 hi hxa h1 h2
  obtain ⟨ix, iy, igx, igy, imx, imy, -, izx, izy⟩ := indep_spec hi
  have iax := hxa
  have iay := hya
  obtain ⟨rx, vx, bx, rfl, hrx, hx⟩ := h1.to2 iax izx
  obtain ⟨ry, vy, b, rfl, hry, hy⟩ := h2.to2 iay izy
  simp only at hry hy
  -- what y looks at is the same at s
  have off : ∀ j, j ∉ gIn all x → x.dst ≠ some j → (setD x.dst vx (refine1 rx s.fr)).get j .junk = s.fr.get j .junk := by
    intro j h3 h4
    rw [at'_setD, if_neg (fun c => h4 c.1), at'_refine1]
    cases hr : rx with
    | none => rfl
    | some r =>
      obtain ⟨g, c⟩ := r
      have := (hrx g c hr).1
      have hne : ¬ (g = j ∧ s.fr.has j = true) := fun c => h3 (c.1 ▸ this)
      simp only
      rw [if_neg hne]
  have gval : ∀ g c, g ∈ gIn all y → ((setD x.dst vx (refine1 rx s.fr)).get g .junk = lit c ∨ (setD x.dst vx (refine1 rx s.fr)).get g .junk = .val (.bool c)) →
      (s.fr.get g .junk = lit c ∨ s.fr.get g .junk = .val (.bool c)) := by
    intro g c hg h
    rw [at'_setD, if_neg (fun e => (ix g e.1).2.1 hg), at'_refine1] at h
    cases hr : rx with
    | none => rw [hr] at h; exact h
    | some r =>
      obtain ⟨g', c'⟩ := r
      rw [hr] at h
      simp only at h
      by_cases e : g' = g ∧ s.fr.has g = true
      · rw [if_pos e] at h
        obtain ⟨rfl, -⟩ := e
        have : c' = c := by cases c <;> cases c' <;> simp [lit] at h <;> rfl
        subst this
        exact (hrx _ _ hr).2
      · rw [if_neg e] at h; exact h
  have memB : memW E.bs x.op = false → bx = s.bx := by
    intro hm
    rcases hx with ⟨-, h, -⟩ | ⟨h, -⟩
    · exact h
    · exact stepB_keeps hm h
  have memB' : memW E.bs y.op = false → b = bx := by
    intro hm
    rcases hy with ⟨-, h, -⟩ | ⟨h, -⟩
    · exact h
    · exact stepB_keeps hm h
  -- the boxes in between
  have hin : ∀ (r : Option (Nat × Bool)) (f f' : Tr SV), (∀ t ∈ tmpsIn y.op, f.get t .junk = f'.get t .junk) → (∀ t, f.has t = f'.has t) → ∀ t ∈ tmpsIn y.op, (refine1 r f).get t .junk = (refine1 r f').get t .junk := by
    intro r f f' h hl t ht
    rw [at'_refine1, at'_refine1]
    cases r with
    | none => exact h t ht
    | some r => obtain ⟨g, c⟩ := r; simp only [hl]; split
                · rfl
                · exact h t ht
  have hinx : ∀ (r : Option (Nat × Bool)) (f f' : Tr SV), (∀ t ∈ tmpsIn x.op, f.get t .junk = f'.get t .junk) → (∀ t, f.has t = f'.has t) → ∀ t ∈ tmpsIn x.op, (refine1 r f).get t .junk = (refine1 r f').get t .junk := by
    intro r f f' h hl t ht
    rw [at'_refine1, at'_refine1]
    cases r with
    | none => exact h t ht
    | some r => obtain ⟨g, c⟩ := r; simp only [hl]; split
                · rfl
                · exact h t ht
  let bm : Tr (Option (List SV)) := if memW E.bs y.op then b else s.bx
  let s2 : ASt := ⟨setD y.dst vy (refine1 ry s.fr), bm⟩
  have hbm : memW E.bs y.op = false → bm = s.bx := fun h => by simp [bm, h]
  have hbm' : memW E.bs y.op = true → bm = b := fun h => by simp [bm, h]
  have hcase : memW E.bs x.op = false ∨ memW E.bs y.op = false := by
    cases hm : memW E.bs x.op with
    | false => exact .inl rfl
    | true =>
      rcases imx hm with c | c
      · exact .inr c.2
      · refine .inr ?_
        cases hy : y.op <;> rw [hy] at c <;> first | rfl | (simp [qp, isQL, isSL] at c; done)
  refine ⟨s2, Step2.to1 iay izy ⟨ry, vy, bm, rfl, fun g c e => ⟨(hry g c e).1, gval g c (hry g c e).1 (hry g c e).2⟩, ?_⟩, ?_⟩
  · rcases hy with ⟨hv, hb, j, c, g, hg, hj, h⟩ | ⟨h, hg⟩
    · refine .inl ⟨hv, ?_, j, c, g, hg, hj, ?_⟩
      · cases hm : memW E.bs y.op with
        | false => exact hbm hm
        | true =>
          rw [hbm' hm, hb]
          exact memB (imy hm).2
      · rcases h with h | ⟨h, z, hz⟩
        · exact .inl h
        · refine .inr ⟨h, z, ?_⟩
          have hgy : g ∈ gIn all y := by rw [gIn_of hg hj]; simp
          rw [at'_setD, if_neg (fun e => (ix g e.1).2.1 hgy), at'_refine1] at hz
          cases hr : rx with
          | none => rw [hr] at hz; exact hz
          | some r =>
            obtain ⟨g', c'⟩ := r
            rw [hr] at hz
            simp only at hz
            by_cases e : g' = g ∧ s.fr.has g = true
            · rw [if_pos e] at hz; cases c' <;> simp [lit] at hz
            · rw [if_neg e] at hz; exact hz
    · refine .inr ⟨?_, hg⟩
      have hops : ∀ z ∈ y.op.operands, ev ⟨refine1 ry s.fr, s.bx⟩ z = ev ⟨refine1 ry (setD x.dst vx (refine1 rx s.fr)), bx⟩ z :=
        ev_same (hin ry _ _ (fun t ht => (off t (fun c => igx t c ht) (fun c => (ix t c).1 ht)).symm) (fun t => by rw [setD_has, refine1_has]))
      intro k' hk'
      rw [stepB_congr hops]
      cases hm : memW E.bs y.op with
      | true =>
        rw [hbm' hm] at hk'
        have e := memB (imy hm).2
        rw [← e]
        exact h k' hk'
      | false =>
        rw [hbm hm] at hk'
        cases hmx : memW E.bs x.op with
        | false =>
          have e := memB hmx
          have e2 := memB' hm
          have := h k' (by rw [e2, e]; exact hk')
          rw [e] at this ⊢
          exact this
        | true =>
          rcases imx hmx with c | c1
          · exact (stepB_free c.1 hm h).2 s.bx k' hk'
          · have e2 := memB' hm
            rw [e2] at h
            rcases hx with ⟨-, hb, -⟩ | ⟨hx, -⟩
            · rw [hb] at h; exact h k' hk'
            · exact pair_quiet c1 hx (.inl fun q => ⟨rfl, rfl⟩) h k' hk'
  · refine Step2.to1 iax izx ⟨rx, vx, b, ?_, ?_, ?_⟩
    · congr 1
      refine Tr.ext SV.junk ?_ ?_
      · exact Tr.like_trans (setD_like _ _ _) (Tr.like_trans (refine1_like _ _) (Tr.like_trans (setD_like _ _ _) (Tr.like_trans (refine1_like _ _)
          (Tr.like_symm (Tr.like_trans (setD_like _ _ _) (Tr.like_trans (refine1_like _ _) (Tr.like_trans (setD_like _ _ _) (refine1_like _ _))))))))
      · intro j hj
        simp only [setD_has, refine1_has] at hj
        have sd : ∀ (d : Option Nat) (v : SV) (l : Tr SV), l.has j = true → (setD d v l).get j .junk = if d = some j then v else l.get j .junk := by
          intro d v l hl
          rw [at'_setD]
          by_cases e : d = some j
          · rw [if_pos ⟨e, hl⟩, if_pos e]
          · rw [if_neg (fun c => e c.1), if_neg e]
        have rf : ∀ (g : Nat) (c : Bool) (l : Tr SV), l.has j = true → (refine1 (some (g, c)) l).get j .junk = if g = j then lit c else l.get j .junk := by
          intro g c l hl
          rw [at'_refine1]
          simp only
          by_cases e : g = j
          · rw [if_pos ⟨e, hl⟩, if_pos e]
          · rw [if_neg (fun c => e c.1), if_neg e]
        have key : ∀ (dx dy : Option Nat) (rx ry : Option (Nat × Bool)), (dy = some j → dx ≠ some j ∧ ∀ g c, rx = some (g, c) → g ≠ j) → (dx = some j → ∀ g c, ry = some (g, c) → g ≠ j) →
            (∀ c c', rx = some (j, c') → ry = some (j, c) → c = c') →
            (setD dy vy (refine1 ry (setD dx vx (refine1 rx s.fr)))).get j .junk = (setD dx vx (refine1 rx (setD dy vy (refine1 ry s.fr)))).get j .junk := by
          intro dx dy rx ry hA hB hC
          rw [sd _ _ _ (by simp only [setD_has, refine1_has]; exact hj), sd _ _ _ (by simp only [setD_has, refine1_has]; exact hj)]
          cases rx with
          | none =>
            cases ry with
            | none =>
              show (if dy = some j then vy else (setD dx vx s.fr).get j .junk) = (if dx = some j then vx else (setD dy vy s.fr).get j .junk)
              rw [sd _ _ _ hj, sd _ _ _ hj]
              by_cases e1 : dy = some j
              · simp only [if_pos e1, if_neg (hA e1).1]
              · simp only [if_neg e1]
            | some r =>
              obtain ⟨g, c⟩ := r
              show (if dy = some j then vy else (refine1 (some (g, c)) (setD dx vx s.fr)).get j .junk) = (if dx = some j then vx else (setD dy vy (refine1 (some (g, c)) s.fr)).get j .junk)
              rw [rf _ _ _ (by rw [setD_has]; exact hj), sd _ _ _ hj, sd _ _ _ (by rw [refine1_has]; exact hj), rf _ _ _ hj]
              by_cases e1 : dy = some j
              · simp only [if_pos e1, if_neg (hA e1).1]
              · simp only [if_neg e1]
                by_cases e2 : dx = some j
                · simp only [if_pos e2, if_neg (hB e2 g c rfl)]
                · simp only [if_neg e2]
          | some r' =>
            obtain ⟨g', c'⟩ := r'
            cases ry with
            | none =>
              show (if dy = some j then vy else (setD dx vx (refine1 (some (g', c')) s.fr)).get j .junk) = (if dx = some j then vx else (refine1 (some (g', c')) (setD dy vy s.fr)).get j .junk)
              rw [rf _ _ _ (by rw [setD_has]; exact hj), sd _ _ _ hj, sd _ _ _ (by rw [refine1_has]; exact hj), rf _ _ _ hj]
              by_cases e1 : dy = some j
              · simp only [if_pos e1, if_neg (hA e1).1, if_neg ((hA e1).2 g' c' rfl)]
              · simp only [if_neg e1]
            | some r =>
              obtain ⟨g, c⟩ := r
              rw [rf _ _ _ (by simp only [setD_has, refine1_has]; exact hj), rf _ _ _ (by simp only [setD_has, refine1_has]; exact hj),
                sd _ _ _ (by simp only [refine1_has]; exact hj), sd _ _ _ (by simp only [refine1_has]; exact hj), rf _ _ _ hj, rf _ _ _ hj]
              by_cases e1 : dy = some j
              · simp only [if_pos e1, if_neg (hA e1).1, if_neg ((hA e1).2 g' c' rfl)]
              · simp only [if_neg e1]
                by_cases e2 : dx = some j
                · simp only [if_pos e2, if_neg (hB e2 g c rfl)]
                · simp only [if_neg e2]
                  by_cases e3 : g = j
                  · simp only [if_pos e3]
                    by_cases e4 : g' = j
                    · simp only [if_pos e4]
                      rw [hC c c' (by rw [e4]) (by rw [e3])]
                    · simp only [if_neg e4]
                  · simp only [if_neg e3]
        refine key x.dst y.dst rx ry (fun ey => ⟨fun ex => (ix j ex).2.2 ey, fun g c hr e => (iy j ey).2 (e ▸ (hrx g c hr).1)⟩) (fun ex g c hr e => (ix j ex).2.1 (e ▸ (hry g c hr).1)) ?_
        intro c c' hr' hr
        have h3 := (hry _ _ hr).2
        have hgy := (hry _ _ hr).1
        rw [at'_setD, if_neg (fun e => (ix j e.1).2.1 hgy), at'_refine1, hr'] at h3
        simp only at h3
        rw [if_pos ⟨trivial, hj⟩] at h3
        cases c <;> cases c' <;> simp [lit] at h3 <;> rfl
    · intro g c hr
      refine ⟨(hrx g c hr).1, ?_⟩
      have h3 := (hrx g c hr)
      simp only [s2]
      rw [at'_setD, if_neg (fun e => (iy g e.1).2 h3.1), at'_refine1]
      cases hr' : ry with
      | none => exact h3.2
      | some r =>
        obtain ⟨g', c'⟩ := r
        simp only
        by_cases e : g' = g ∧ s.fr.has g = true
        · rw [if_pos e]
          obtain ⟨rfl, -⟩ := e
          have h4 := gval _ _ (hry _ _ hr').1 (hry _ _ hr').2
          rcases h3.2 with a1 | a1 <;> rcases h4 with a2 | a2 <;> rw [a1] at a2 <;> cases c <;> cases c' <;> simp [lit] at a2 ⊢
        · rw [if_neg e]; exact h3.2
    · rcases hx with ⟨hv, hb, j, c, g, hg, hj, h⟩ | ⟨h, hg⟩
      · refine .inl ⟨hv, ?_, j, c, g, hg, hj, ?_⟩
        · show b = bm
          cases hm : memW E.bs y.op with
          | true => exact (hbm' hm).symm
          | false => rw [hbm hm, memB' hm]; exact hb
        · rcases h with h | ⟨h, z, hz⟩
          · exact .inl h
          · refine .inr ⟨h, z, ?_⟩
            have hgx : g ∈ gIn all x := by rw [gIn_of hg hj]; simp
            simp only [s2]
            rw [at'_setD, if_neg (fun e => (iy g e.1).2 hgx), at'_refine1]
            cases hr : ry with
            | none => exact hz
            | some r =>
              obtain ⟨g', c'⟩ := r
              simp only
              by_cases e : g' = g ∧ s.fr.has g = true
              · obtain ⟨rfl, -⟩ := e
                have h4 := gval _ _ (hry _ _ hr).1 (hry _ _ hr).2
                rcases h4 with h4 | h4 <;> rw [hz] at h4 <;> cases c' <;> simp [lit] at h4
              · rw [if_neg e]; exact hz
      · refine .inr ⟨?_, hg⟩
        have hops : ∀ z ∈ x.op.operands, ev ⟨refine1 rx (setD y.dst vy (refine1 ry s.fr)), bm⟩ z = ev ⟨refine1 rx s.fr, s.bx⟩ z := by
          refine ev_same (hinx rx _ _ (fun t ht => ?_) (fun t => by rw [setD_has, refine1_has]))
          rw [at'_setD, if_neg (fun e => (iy t e.1).1 ht), at'_refine1]
          cases hr : ry with
          | none => rfl
          | some r =>
            obtain ⟨g, c⟩ := r
            have hne : ¬ (g = t ∧ s.fr.has t = true) := fun e => igy g (hry g c hr).1 (e.1 ▸ ht)
            simp only
            rw [if_neg hne]
        intro k' hk'
        show stepB E (dOf x.dst) x.op (ev ⟨refine1 rx (setD y.dst vy (refine1 ry s.fr)), bm⟩) bm k'
        rw [stepB_congr hops]
        cases hm : memW E.bs y.op with
        | false =>
          rw [hbm hm]
          rw [memB' hm] at hk'
          exact h k' hk'
        | true =>
          rw [hbm' hm]
          cases hR : memR x.op with
          | false => exact (stepB_free hR (imy hm).2 h).2 b k' hk'
          | true =>
            have e := memB (imy hm).2
            rcases (imy hm).1 with c | hA | c1
            · rw [hR] at c; cases c
            rotate_left
            · rw [e] at h
              rcases hy with ⟨-, hb, -⟩ | ⟨hy, -⟩
              · rw [hb, e] at hk' ⊢; exact h k' hk'
              · exact pair_quiet c1 hy (.inr fun q => ⟨rfl, by rw [e]⟩) h k' hk'
            have hle : ∀ id cs, s.bx.get id none = some cs → b.get id none = some cs := by
              rcases hy with ⟨-, hb, -⟩ | ⟨hy, -⟩
              · rw [hb, e]; exact fun _ _ h => h
              · rw [← e]; exact stepB_grows hA hy
            rw [e] at h
            exact stepB_mono hR (imy hm).2 hle h k' hk'

/-! ### 2. A step moved to the front -/
theorem Run.front : ∀ {A : List Oper} {B : List Oper} {s t : ASt}, (∀ z ∈ A, indep E.bs all z x = true) → Run E all (A ++ x :: B) s t → ∃ s1, Step1 E all x s s1 ∧ Run E all (A ++ B) s1 t
  | [], B, s, t, _, h => by
    cases h with
    | cons _ _ _ s' _ h1 h2 => exact ⟨s', h1, h2⟩
  | z :: A, B, s, t, hi, h => by
    cases h with
    | cons _ _ _ s' _ h1 h2 =>
      obtain ⟨s2, h3, h4⟩ := Run.front (fun u hu => hi u (List.mem_cons_of_mem _ hu)) h2
      obtain ⟨s3, h5, h6⟩ := swap (hi z List.mem_cons_self) h1 h3
      exact ⟨s3, h5, .cons _ _ _ s2 _ h6 h4⟩
end

/-! ### 3. What the order's look says -/
theorem maskOf_bit (B : List Nat) (j : Nat) : ∀ (l : List Nat) (s : Nat), (l.foldl (fun s p => s ||| (2 ^ p ||| B.getD p 0)) s).testBit j = true →
    s.testBit j = true ∨ ∃ p ∈ l, p = j ∨ (B.getD p 0).testBit j = true
  | [], s, h => .inl h
  | p :: l, s, h => by
    rcases maskOf_bit B j l _ h with h | ⟨q, hq, h⟩
    · rw [Nat.testBit_or, Nat.testBit_or] at h
      simp only [Bool.or_eq_true] at h
      rcases h with h | h | h
      · exact .inl h
      · rw [Nat.testBit_two_pow] at h
        exact .inr ⟨p, List.mem_cons_self, .inl (by simpa using h)⟩
      · exact .inr ⟨p, List.mem_cons_self, .inr h⟩
    · exact .inr ⟨q, List.mem_cons_of_mem _ hq, h⟩
theorem orderOk_at {bs : List Nat} {ops : List Oper} {B : List Nat} (h : orderOkB bs ops B = true) {i : Nat} {o : Oper} (ho : ops[i]? = some o) :
    (∀ p ∈ preds o, p < i) ∧ B.getD i 0 = maskOf B o ∧ ∀ j x, j < i → ops[j]? = some x → (B.getD i 0).testBit j = true ∨ indep bs ops x o = true := by
  have hi : i < ops.length := (List.getElem?_eq_some_iff.1 ho).1
  have := List.all_eq_true.1 h i (by simpa using hi)
  rw [ho] at this
  simp only [Bool.and_eq_true] at this
  obtain ⟨⟨h1, h2⟩, h3⟩ := this
  refine ⟨fun p hp => ?_, by simpa using h2, fun j x hj hx => ?_⟩
  · have := List.all_eq_true.1 h1 p hp
    simpa [Nat.blt_eq] using this
  · have := List.all_eq_true.1 h3 j (by simpa using hj)
    rw [hx] at this
    simpa using this
/-- with all that an operation waits for, all lies behind that these wait for -/
theorem bits_listed {bs : List Nat} {ops : List Oper} {B : List Nat} (h : orderOkB bs ops B = true) (L : Nat → Bool) (hcl : ∀ i o, ops[i]? = some o → L i = true → ∀ p ∈ preds o, L p = true) :
    ∀ (i : Nat) (o : Oper), ops[i]? = some o → (∀ p ∈ preds o, L p = true) → ∀ j, (B.getD i 0).testBit j = true → L j = true := by
  intro i
  induction i using Nat.strongRecOn with
  | _ i ih =>
    intro o ho hp j hj
    obtain ⟨h1, h2, -⟩ := orderOk_at h ho
    rw [h2] at hj
    rcases maskOf_bit B j _ _ hj with hj | ⟨p, hpm, hj⟩
    · simp at hj
    · rcases hj with rfl | hj
      · exact hp _ hpm
      · have hlt := h1 p hpm
        have hi : i < ops.length := (List.getElem?_eq_some_iff.1 ho).1
        have hpo : ops[p]? = some ops[p] := List.getElem?_eq_getElem (by omega)
        exact ih p hlt _ hpo (hcl p _ hpo (hp p hpm)) j hj

/-! ### 4. The region -/
section
variable {P : Program} {E : Env} {M : BM} {w0 : World} {H0 : HM} {ops : Array Oper} {Q : Exit → Act → World → Prop} [GlOk E H0 w0]

/-- the operations that are still to come, in the text's order -/
def rem (ops : Array Oper) (l : Array Bool) : List Nat := (List.range ops.size).filter fun i => !l.getD i true
def opsAt (ops : Array Oper) (is : List Nat) : List Oper := is.filterMap fun i => ops[i]?
theorem binds_preds {o : Oper} {l : Array Bool} (h : (o.after.all fun e => !Region.binds .any e || l.getD e.on false) = true) : ∀ p ∈ preds o, l.getD p false = true := by
  intro p hp
  unfold preds at hp
  rw [List.mem_filterMap] at hp
  obtain ⟨e, he, hp⟩ := hp
  rw [Array.all_eq_true'] at h
  have := h e (by simpa using he)
  cases hb : Region.binds .any e with
  | false => rw [hb] at hp; simp at hp
  | true =>
    rw [hb] at hp this
    simp only [if_true, Option.some.injEq] at hp
    subst hp
    simpa using this
theorem preds_binds {o : Oper} {l : Array Bool} (h : ∀ p ∈ preds o, l.getD p false = true) : (o.after.all fun e => !Region.binds .any e || l.getD e.on false) = true := by
  rw [Array.all_eq_true']
  intro e he
  cases hb : Region.binds .any e with
  | false => simp
  | true =>
    have := h e.on (by
      unfold preds
      rw [List.mem_filterMap]
      exact ⟨e, by simpa using he, by simp [hb]⟩)
    simpa using this
theorem ready_iff {l : Array Bool} {i : Nat} : i ∈ Region.ready .any ops l ↔ i < ops.size ∧ l.getD i true = false ∧ ∃ o, ops[i]? = some o ∧ ∀ p ∈ preds o, l.getD p false = true := by
  unfold Region.ready
  rw [List.mem_filter]
  simp only [List.mem_range, Bool.and_eq_true, Bool.not_eq_true']
  constructor
  · rintro ⟨h1, h2, h3⟩
    refine ⟨h1, h2, ?_⟩
    have ho : ops[i]? = some ops[i] := Array.getElem?_eq_getElem h1
    rw [ho] at h3
    exact ⟨ops[i], ho, binds_preds h3⟩
  · rintro ⟨h1, h2, o, ho, h3⟩
    refine ⟨h1, h2, ?_⟩
    rw [ho]
    exact preds_binds h3

theorem wpAny_of (hE : EnvOk P E) {B : List Nat} (hok : orderOkB E.bs ops.toList B = true) {t : ASt} (hq : ∀ a' w', Rel M w0 H0 t a' w' → Q .normal a' w') :
    ∀ (n : Nat) (l : Array Bool) (s : ASt) (a : Act) (w : World), l.size = ops.size → (rem ops l).length = n →
      (∀ i o, ops[i]? = some o → l.getD i false = true → ∀ p ∈ preds o, l.getD p false = true) →
      Run E ops.toList (opsAt ops (rem ops l)) s t → Rel M w0 H0 s a w → wpAny P .any ops Q n l a w := by
  intro n
  have same : ∀ (l : Array Bool) (i : Nat), l.size = ops.size → i < ops.size → l.getD i true = l.getD i false := by
    intro l i h1 h2
    simp [Array.getD, show i < l.size by omega]
  have nil : ∀ (l : Array Bool) (s : ASt) (a : Act) (w : World), l.size = ops.size → (rem ops l) = [] → Run E ops.toList (opsAt ops (rem ops l)) s t → Rel M w0 H0 s a w → Q .normal a w := by
    intro l s a w hl h hrun hr
    rw [h] at hrun
    cases hrun
    exact hq _ _ hr
  induction n with
  | zero =>
    intro l s a w hl hn hcl hrun hr
    have h0 : rem ops l = [] := List.eq_nil_of_length_eq_zero hn
    refine ⟨?_, nil l s a w hl h0 hrun hr⟩
    cases hr' : Region.ready .any ops l with
    | nil => rfl
    | cons i r =>
      have hi : i ∈ Region.ready .any ops l := by rw [hr']; exact List.mem_cons_self
      obtain ⟨h1, h2, -⟩ := ready_iff.1 hi
      have : i ∈ rem ops l := by unfold rem; rw [List.mem_filter]; exact ⟨by simpa using h1, by simp [h2]⟩
      rw [h0] at this
      cases this
  | succ n ih =>
    intro l s a w hl hn hcl hrun hr
    constructor
    · intro hre
      refine nil l s a w hl ?_ hrun hr
      cases hm : rem ops l with
      | nil => rfl
      | cons i r =>
        exfalso
        have hall : ∀ j, j < i → l.getD j true = true := by
          intro j hj
          cases hlj : l.getD j true with
          | true => rfl
          | false =>
            exfalso
            have hi : i < ops.size := by
              have : i ∈ rem ops l := by rw [hm]; exact List.mem_cons_self
              unfold rem at this
              rw [List.mem_filter] at this
              simpa using this.1
            have hj' : j ∈ i :: r := by rw [← hm]; unfold rem; rw [List.mem_filter]; exact ⟨by simp; omega, by simp [hlj]⟩
            have hsort : (i :: r).Pairwise (· < ·) := by rw [← hm]; exact (List.pairwise_lt_range).filter _
            rw [List.pairwise_cons] at hsort
            rcases List.mem_cons.1 hj' with e | e
            · omega
            · have := hsort.1 j e; omega
        have hmem : i ∈ rem ops l := by rw [hm]; exact List.mem_cons_self
        unfold rem at hmem
        rw [List.mem_filter] at hmem
        have hi : i < ops.size := by simpa using hmem.1
        have hif : l.getD i true = false := by simpa using hmem.2
        have ho : ops[i]? = some ops[i] := Array.getElem?_eq_getElem hi
        have : i ∈ Region.ready .any ops l := ready_iff.2 ⟨hi, hif, _, ho, fun p hp => by
          have hlt := (orderOk_at hok (by rw [Array.getElem?_toList]; exact ho)).1 p hp
          rw [← same l p hl (by omega)]
          exact hall p hlt⟩
        rw [hre] at this
        cases this
    · intro i hi
      obtain ⟨h1, h2, o, ho, hp⟩ := ready_iff.1 hi
      have hmem : i ∈ rem ops l := by unfold rem; rw [List.mem_filter]; exact ⟨by simpa using h1, by simp [h2]⟩
      obtain ⟨A, B', hAB⟩ := List.append_of_mem hmem
      have hsort : (A ++ i :: B').Pairwise (· < ·) := by rw [← hAB]; exact (List.pairwise_lt_range).filter _
      have hA : ∀ j ∈ A, j < i ∧ l.getD j true = false := by
        intro j hj
        have hjm : j ∈ rem ops l := by rw [hAB]; exact List.mem_append_left _ hj
        unfold rem at hjm
        rw [List.mem_filter] at hjm
        exact ⟨(List.pairwise_append.1 hsort).2.2 j hj i List.mem_cons_self, by simpa using hjm.2⟩
      have e1 : opsAt ops (rem ops l) = opsAt ops A ++ o :: opsAt ops B' := by
        rw [hAB]
        unfold opsAt
        rw [List.filterMap_append, List.filterMap_cons, ho]
      have e2 : rem ops (l.setIfInBounds i true) = A ++ B' := by
        have hnd : (A ++ i :: B').Nodup := hsort.imp (fun h => Nat.ne_of_lt h)
        have : rem ops (l.setIfInBounds i true) = (rem ops l).filter (fun j => j != i) := by
          unfold rem
          rw [List.filter_filter]
          apply List.filter_congr
          intro j hj
          have hjl : j < ops.size := by simpa using hj
          by_cases e : j = i
          · subst e
            simp [Array.getD, show j < l.size by omega]
          · have : (l.setIfInBounds i true).getD j true = l.getD j true := by
              simp [Array.getD_eq_getD_getElem?, Array.getElem?_setIfInBounds_ne (fun c => e c.symm)]
            rw [this]
            simp [e]
        rw [this, hAB, List.filter_append, List.filter_cons]
        have hAi : ∀ j ∈ A, (j != i) = true := fun j hj => by have := (hA j hj).1; simp; omega
        have hBi : ∀ j ∈ B', (j != i) = true := fun j hj => by
          have := (List.pairwise_cons.1 (List.pairwise_append.1 hsort).2.1).1 j hj
          simp; omega
        simp [List.filter_eq_self.2 hAi, List.filter_eq_self.2 hBi]
      rw [e1] at hrun
      obtain ⟨s1, h3, h4⟩ := Run.front (fun z hz => by
        unfold opsAt at hz
        rw [List.mem_filterMap] at hz
        obtain ⟨j, hj, hzj⟩ := hz
        obtain ⟨hji, hjl⟩ := hA j hj
        rcases (orderOk_at hok (by rw [Array.getElem?_toList]; exact ho)).2.2 j z hji (by rw [Array.getElem?_toList]; exact hzj) with hb | hb
        · exfalso
          have hL := bits_listed hok (fun k => l.getD k false) (fun k ok hk => hcl k ok (by rw [← Array.getElem?_toList]; exact hk)) i o (by rw [Array.getElem?_toList]; exact ho) hp j hb
          rw [same l j hl (by omega)] at hjl
          rw [hjl] at hL
          cases hL
        · exact hb) hrun
      refine Step1_sound hE ho h3 hr fun a' w' hr' => ih (l.setIfInBounds i true) s1 a' w' (by simpa using hl) ?_ ?_ ?_ hr'
      · rw [e2]
        rw [hAB] at hn
        simp at hn ⊢
        omega
      · intro k ok hk hlk p hpk
        have up : ∀ q, l.getD q false = true → (l.setIfInBounds i true).getD q false = true := by
          intro q hq
          by_cases e : q = i
          · subst e; simp [Array.getD, show q < l.size by omega]
          · have : (l.setIfInBounds i true).getD q false = l.getD q false := by
              simp [Array.getD_eq_getD_getElem?, Array.getElem?_setIfInBounds_ne (fun c => e c.symm)]
            rw [this]; exact hq
        by_cases e : k = i
        · subst e
          rw [ho] at hk
          obtain rfl := Option.some.inj hk
          exact up p (hp p hpk)
        · have : (l.setIfInBounds i true).getD k false = l.getD k false := by
            simp [Array.getD_eq_getD_getElem?, Array.getElem?_setIfInBounds_ne (fun c => e c.symm)]
          rw [this] at hlk
          exact up p (hcl k ok hk hlk p hpk)
      · rw [e2]
        unfold opsAt at h4 ⊢
        rw [List.filterMap_append]
        exact h4

theorem draw_sound (hE : EnvOk P E) (hm : P.follows .mixedOrders = true) (id : Nat) {s : ASt} {a : Act} {w : World} {K : ASt → Prop} (hok : orderOk E.bs ops.toList = true) (h : axOps E ops.toList ops.toList s K) (hr : Rel M w0 H0 s a w)
    (hq : ∀ s' a' w', K s' → Rel M w0 H0 s' a' w' → Q .normal a' w') : (Code.region id ops true).wp P Q a w := by
  obtain ⟨t, h1, h2⟩ := axOps_rel h
  refine wp_region_any hm ?_
  have hrem : rem ops (Array.replicate ops.size false) = List.range ops.size := by
    unfold rem
    rw [List.filter_eq_self]
    intro i hi
    have : i < ops.size := by simpa using hi
    simp [Array.getD, this]
  refine wpAny_of hE hok (t := t) (fun a' w' hr' => hq t a' w' h2 hr') ops.size _ s a _ (by simp) (by rw [hrem]; simp) ?_ ?_ hr.drew
  · intro i o ho hl
    have hi : i < ops.size := by
      by_cases h : i < ops.size
      · exact h
      · rw [Array.getElem?_eq_none (by omega)] at ho; cases ho
    simp [Array.getD, hi] at hl
  · rw [hrem]
    have : opsAt ops (List.range ops.size) = ops.toList := by
      unfold opsAt
      apply List.ext_getElem?
      intro i
      have aux : ∀ n, n ≤ ops.size → (List.range n).filterMap (fun i => ops[i]?) = ops.toList.take n := by
        intro n
        induction n with
        | zero => intro _; rfl
        | succ n ih =>
          intro hn
          rw [List.range_succ, List.filterMap_append, ih (by omega)]
          have : ops[n]? = some ops[n] := Array.getElem?_eq_getElem (by omega)
          simp only [List.filterMap_cons, this, List.filterMap_nil]
          rw [List.take_succ_eq_append_getElem (by simp; omega)]
          simp
      rw [aux ops.size (Nat.le_refl _)]
      rw [show ops.size = ops.toList.length from by simp, List.take_length]
    rw [this]
    exact h1
end
end Go.Proofs.YtimhbimpaiiceaaDoor.Ax
