/- Code, and functions: what the logic shows of a body is the function's contract. -/
import Derived.Test.YtimhbimpaiiceaaDoorA8
set_option linter.unusedVariables false
set_option linter.unusedSimpArgs false
namespace Go.Proofs.YtimhbimpaiiceaaDoor.Ax
open Go Go.RowKit

/-! ### 1. Knowing less -/
def restr (β : BM) (bx : Tr (Option (List SV))) : BM := fun b => match bx.get b none with
  | some _ => β b
  | none => none
theorem restr_le (β : BM) (bx : Tr (Option (List SV))) : BLe (restr β bx) β := fun b k h => by
  unfold restr at h
  split at h
  · exact h
  · cases h
theorem refOks_at {bx : Tr (Option (List SV))} {l : List SV} (h : refOk.refOks bx l = true) : ∀ j, j < l.length → refOk bx (at' l j .junk) = true := by
  induction l with
  | nil => intro j hj; simp at hj
  | cons x xs ih =>
    intro j hj
    unfold refOk.refOks at h
    cases hx : refOk bx x with
    | false => rw [hx] at h; simp at h
    | true =>
      rw [hx] at h
      cases j with
      | zero => exact hx
      | succ j => exact ih h j (by simpa using hj)
theorem refOkT_at {bx : Tr (Option (List SV))} : ∀ {t : Tr SV}, refOkT bx t = true → ∀ j, refOk bx (t.get j .junk) = true
  | .nil, _, _ => rfl
  | .node v l r, h, j => by
    unfold refOkT at h
    cases hv : refOk bx v with
    | false => rw [hv] at h; simp at h
    | true =>
      rw [hv] at h
      simp only at h
      cases hl : refOkT bx l with
      | false => rw [hl] at h; simp at h
      | true =>
        rw [hl] at h
        cases j with
        | zero => exact hv
        | succ j =>
          simp only [Tr.get]
          rcases Tr.half j with ⟨e, -⟩ | ⟨e, -⟩ <;> rw [e]
          · exact refOkT_at hl _
          · exact refOkT_at h _
theorem refOkB_at {bx : Tr (Option (List SV))} : ∀ {t : Tr (Option (List SV))}, refOkB bx t = true → ∀ id cs, t.get id none = some cs → refOk.refOks bx cs = true
  | .nil, _, _, _, e => by cases e
  | .node v l r, h, id, cs, e => by
    have parts : (∀ cs, v = some cs → refOk.refOks bx cs = true) ∧ refOkB bx l = true ∧ refOkB bx r = true := by
      unfold refOkB at h
      cases v with
      | none =>
        simp only at h
        cases hl : refOkB bx l with
        | false => rw [hl] at h; simp at h
        | true => rw [hl] at h; exact ⟨fun _ e => (by cases e), rfl, h⟩
      | some c =>
        simp only at h
        cases hx : refOk.refOks bx c with
        | false => rw [hx] at h; simp at h
        | true =>
          rw [hx] at h
          simp only at h
          cases hl : refOkB bx l with
          | false => rw [hl] at h; simp at h
          | true => rw [hl] at h; exact ⟨fun _ e => (by cases e; exact hx), rfl, h⟩
    obtain ⟨h1, h2, h3⟩ := parts
    cases id with
    | zero =>
      simp only [Tr.get] at e
      exact h1 _ e
    | succ j =>
      simp only [Tr.get] at e
      rcases Tr.half j with ⟨e', -⟩ | ⟨e', -⟩ <;> rw [e'] at e
      · exact refOkB_at h2 _ _ e
      · exact refOkB_at h3 _ _ e
theorem G.forget {H : HM} {β : BM} {T : TM} {s : SV} {v : Value} (h : G H β T s v) (bx : Tr (Option (List SV))) : refOk bx s = true → G H (restr β bx) T s v := by
  have box : ∀ b k, refOk bx (.box b 0) = true → β b = some k → restr β bx b = some k := by
    intro b k h1 h2
    unfold restr
    simp only [refOk] at h1
    cases e : bx.get b none with
    | none => rw [e] at h1; simp at h1
    | some _ => exact h2
  induction h with
  | val v => intros; exact .val v
  | tt => intros; exact .tt
  | ff => intros; exact .ff
  | junk v => intros; exact .junk v
  | nb Q b h => intros; exact .nb Q b h
  | rowE => intros; exact .rowE ..
  | row X sz cs d l b off c vs hc hz hh hg ih => intros; exact .row X sz cs d l b off c vs hc hz hh hg
  | ownE => intros; exact .ownE ..
  | own X sz cs d l id b off c vs hc hz hh hg hT ih => intros; exact .own X sz cs d l id b off c vs hc hz hh hg hT
  | elt X sz cs d l i o b p vs hz hh hg ih => intros; exact .elt X sz cs d l i o b p vs hz hh hg
  | box b o k h => intro hi; exact .box b o k (box b k hi h)
  | arr b z o n cap k c h hc he => intro hi; exact .arr b z o n cap k c (box b k hi h) hc he
  | arrE b z o a c => intros; exact .arrE ..
  | plc b z i o k hi' h => intro hi; exact .plc b z i o k hi' (box b k hi h)
  | ifc t v => intros; exact .ifc t v
  | e0 a => intros; exact .e0 a
  | agg l vs hn h ih => intro hi; exact .agg l vs hn fun j e => ih j e box (refOks_at (by simpa [refOk] using hi) j e)
  | tup l vs hn h ih => intro hi; exact .tup l vs hn fun j e => ih j e box (refOks_at (by simpa [refOk] using hi) j e)
  | fn g l vs hn h ih => intro hi; exact .fn g l vs hn fun j e => ih j e box (refOks_at (by simpa [refOk] using hi) j e)

theorem WeakL_at : ∀ {a b : List SV}, WeakL a b → a.length = b.length ∧ ∀ j, j < b.length → Sub (at' a j .junk) (at' b j .junk)
  | [], [], _ => ⟨rfl, fun j hj => by simp at hj⟩
  | x :: xs, y :: ys, h => by
    have two : Sub x y ∧ WeakL xs ys := by
      unfold WeakL at h
      cases y with
      | junk => exact ⟨.junk _, h⟩
      | _ => exact h
    obtain ⟨hl, hs⟩ := WeakL_at two.2
    refine ⟨by simp [hl], fun j hj => ?_⟩
    cases j with
    | zero => exact two.1
    | succ j => exact hs j (by simpa using hj)
  | [], _ :: _, h => h.elim
  | _ :: _, [], h => h.elim
theorem weakT_at : ∀ {a b : Tr SV} {k : Prop}, weakT a b k → k ∧ (∀ j, a.has j = b.has j) ∧ ∀ j, Sub (a.get j .junk) (b.get j .junk)
  | .nil, .nil, k, h => ⟨h, fun _ => rfl, fun _ => .refl _⟩
  | .node v l r, .node v' l' r', k, h => by
    have two : Sub v v' ∧ weakT l l' (weakT r r' k) := by
      unfold weakT at h
      cases v' with
      | junk => exact ⟨.junk _, h⟩
      | _ => exact h
    obtain ⟨h1, h2, h3⟩ := weakT_at two.2
    obtain ⟨h4, h5, h6⟩ := weakT_at h1
    refine ⟨h4, fun j => ?_, fun j => ?_⟩
    · cases j with
      | zero => rfl
      | succ j =>
        simp only [Tr.has]
        rcases Tr.half j with ⟨e, -⟩ | ⟨e, -⟩ <;> rw [e]
        · exact h2 _
        · exact h5 _
    · cases j with
      | zero => exact two.1
      | succ j =>
        simp only [Tr.get]
        rcases Tr.half j with ⟨e, -⟩ | ⟨e, -⟩ <;> rw [e]
        · exact h3 _
        · exact h6 _
  | .nil, .node _ _ _, _, h => h.elim
  | .node _ _ _, .nil, _, h => h.elim
theorem weakB_at : ∀ {a b : Tr (Option (List SV))} {k : Prop}, weakB a b k → k ∧ ∀ id ct, b.get id none = some ct →
    (∃ cs, a.get id none = some cs ∧ isMany cs = isMany ct ∧ WeakL cs ct) ∨ (a.get id none = none ∧ ∃ X sz c d, ct = [.many X sz c d []] ∧ 0 < sz ∧ ∀ x, (c x).length = sz ∧ imm.imms (c x) = true ∧ allOk (c x) = true)
  | .nil, .nil, k, h => ⟨h, fun id ct e => by cases e⟩
  | .node v l r, .node v' l' r', k, h => by
    have two : (∀ ct, v' = some ct → (∃ cs, v = some cs ∧ isMany cs = isMany ct ∧ WeakL cs ct) ∨ (v = none ∧ ∃ X sz c d, ct = [.many X sz c d []] ∧ 0 < sz ∧ ∀ x, (c x).length = sz ∧ imm.imms (c x) = true ∧ allOk (c x) = true)) ∧ weakB l l' (weakB r r' k) := by
      unfold weakB at h
      cases v' with
      | none => exact ⟨fun _ e => (by cases e), h⟩
      | some ct =>
        cases v with
        | none =>
          simp only at h
          obtain ⟨X, sz, c, d, q, rfl, ⟨rfl, h1, h2⟩, h3⟩ := manyK_elim h
          exact ⟨fun ct e => .inr ⟨rfl, X, sz, c, d, (by cases e; rfl), h1, h2⟩, h3⟩
        | some cs =>
          simp only at h
          cases m1 : isMany cs with
          | true =>
            rw [m1] at h
            cases m2 : isMany ct with
            | false => rw [m2] at h; exact h.elim
            | true => rw [m2] at h; exact ⟨fun ct' e => (by cases e; exact .inl ⟨cs, rfl, by rw [m1, m2], h.1⟩), h.2⟩
          | false =>
            rw [m1] at h
            cases m2 : isMany ct with
            | true => rw [m2] at h; exact h.elim
            | false => rw [m2] at h; exact ⟨fun ct' e => (by cases e; exact .inl ⟨cs, rfl, by rw [m1, m2], h.1⟩), h.2⟩
    obtain ⟨h1, h2⟩ := weakB_at two.2
    obtain ⟨h3, h4⟩ := weakB_at h1
    refine ⟨h3, fun id ct e => ?_⟩
    cases id with
    | zero => exact two.1 ct e
    | succ j =>
      simp only [Tr.get] at e ⊢
      rcases Tr.half j with ⟨e', -⟩ | ⟨e', -⟩ <;> rw [e'] at e ⊢
      · exact h2 _ _ e
      · exact h4 _ _ e
  | .nil, .node _ _ _, _, h => h.elim
  | .node _ _ _, .nil, _, h => h.elim
/-- what is known of a variable's cells, when less is known -/
theorem weakC_spec {x y : List SV} (hm : isMany x = isMany y) (h : WeakL x y) : xlen x = xlen y ∧ (∀ j, j < xlen y → ∀ {H : HM} {β : BM} {T : TM} {v : Value}, G H β T (xat x j) v → G H β T (xat y j) v) ∧ (∀ X sz c d l, y = [.many X sz c d l] → x = y) := by
  have hs : SubL x y := by
    obtain ⟨hl, hs⟩ := WeakL_at h
    clear h hm
    induction x generalizing y with
    | nil => cases y with
      | nil => trivial
      | cons _ _ => simp at hl
    | cons a xs ih => cases y with
      | nil => simp at hl
      | cons b ys => exact ⟨hs 0 (by simp), ih (by simpa using hl) fun j hj => hs (j + 1) (by simpa using hj)⟩
  exact subC_spec ⟨hm, hs⟩

section
variable {P : Program} {E : Env} {M : BM} {w0 : World} {H0 : HM}
theorem Weak.rel {s t : ASt} {a : Act} {w : World} (h : Weak s t) (hr : Rel M w0 H0 s a w) : Rel M w0 H0 t a w := by
  obtain ⟨H, β, T, hf, hw⟩ := hr
  obtain ⟨⟨h1, h2⟩, h3⟩ := h
  obtain ⟨h3, hl, hs⟩ := weakT_at h3
  obtain ⟨-, h4⟩ := weakB_at h3
  refine ⟨H, restr β t.bx, T, ⟨fun j hj => hf.size j (by rw [hl]; exact hj), hf.defers, fun j => ?_⟩, ?_⟩
  · exact ((hf.val j).sub (hs j)).forget t.bx (refOkT_at h1 j)
  · refine ⟨hw.lies, ?_, ?_, ?_, hw.tail, fun b o id e i c => hw.sep b o id e i (restr_le _ _ _ _ c), fun i k e => ⟨(hw.hand i k e).1, fun k' c => (hw.hand i k e).2 k' (restr_le _ _ _ _ c)⟩, ?_, fun i k e => hw.mine i k (restr_le _ _ _ _ e), fun i e1 e2 => ?_, hw.keep, hw.ext, hw.fresh, fun k e => hw.edge k (by obtain ⟨i, e | e⟩ := e; exact ⟨i, .inl (restr_le _ _ _ _ e)⟩; exact ⟨i, .inr e⟩)⟩
    · intro id ct e hlt
      rcases h4 id ct e with ⟨cs, hcs, hmm, hwk⟩ | ⟨-, X, sz, c, d, rfl, -⟩
      · obtain ⟨c1, c2, c3⟩ := weakC_spec hmm hwk
        obtain ⟨k, hk, hm, hj⟩ := hw.box id cs hcs (by omega)
        refine ⟨k, by unfold restr; rw [e]; exact hk, hm, fun j hjl => ?_⟩
        obtain ⟨a1, a2, a3, v, a4, a5⟩ := hj j (by omega)
        refine ⟨a1, a2, a3, v, a4, ?_⟩
        have a6 := c2 j hjl a5
        cases hmt : isMany ct with
        | false =>
          rw [xat_not hmt] at a6 ⊢
          rw [xlen_not hmt] at hjl
          exact a6.forget t.bx (refOks_at (refOkB_at h2 id ct e) j hjl)
        | true =>
          match ct, hmt, e, a6, hjl with
          | [.many X sz c d l], _, e, a6, hjl =>
            have hst := hw.many id X sz c d l (by rw [hcs, c3 _ _ _ _ _ rfl])
            have e1 : xat [SV.many X sz c d l] j = at' (c (l.getD (j / sz) d)) (j % sz) .junk := rfl
            rw [e1] at a6 ⊢
            exact a6.imm (imms_at (hst.2 _).2.1 _ (by rw [(hst.2 _).1]; exact Nat.mod_lt _ hst.1)) _ _
          | a :: b :: r, _, e, a6, hjl =>
            rw [xat_two] at a6 ⊢
            rw [xlen_two] at hjl
            exact a6.forget t.bx (refOks_at (refOkB_at h2 id _ e) j hjl)
      · have : xlen [SV.many X sz c d []] = 0 := by show ([] : List X).length * sz = 0; simp
        omega
    · intro id k e
      have e' := restr_le _ _ _ _ e
      refine ⟨(hw.bβ id k e').1, ?_⟩
      unfold restr at e
      cases ht : t.bx.get id none with
      | none => rw [ht] at e; cases e
      | some ct => exact ⟨ct, rfl⟩
    · intro i j k ei ej
      exact hw.inj i j k (restr_le _ _ _ _ ei) (restr_le _ _ _ _ ej)
    · intro id X sz c d l e
      rcases h4 id _ e with ⟨cs, hcs, hmm, hwk⟩ | ⟨-, X', sz', c', d', e2, h5⟩
      · obtain ⟨c1, c2, c3⟩ := weakC_spec hmm hwk
        exact hw.many id X sz c d l (by rw [hcs, c3 _ _ _ _ _ rfl])
      · cases e2; exact h5
    · cases c : restr β t.bx i with
      | none => rfl
      | some k => have := restr_le _ _ _ _ c; rw [hw.out i e1 e2] at this; cases this

/-! ### 2. Code -/
def exOf : Ex → Exit
  | .normal => .normal
  | .exit n => .exit n
  | .ret => .ret
theorem blankK_eq : ∀ (t : Tr SV) (k : Tr SV → Prop), blankK t k = k (blank t)
  | .nil, _ => rfl
  | .node v l r, k => by simp only [blankK, blank, blankK_eq l, blankK_eq r]
theorem blankBK_eq : ∀ (t : Tr (Option (List SV))) (k : Tr (Option (List SV)) → Prop), blankBK t k = k (blankB t)
  | .nil, _ => rfl
  | .node v l r, k => by simp only [blankBK, blankB, blankBK_eq l, blankBK_eq r]
theorem putsK_eq : ∀ (f : List (Nat × SV)) (t : Tr SV) (k : Tr SV → Prop), putsK f t k = k (puts f t)
  | [], _, _ => rfl
  | (i, v) :: r, t, k => by simp only [putsK, puts, force_eq, Tr.putK_eq, putsK_eq r]
theorem putsBK_eq : ∀ (f : List (Nat × List SV)) (t : Tr (Option (List SV))) (k : Tr (Option (List SV)) → Prop), putsBK f t k = k (putsB f t)
  | [], _, _ => rfl
  | (i, v) :: r, t, k => by simp only [putsBK, putsB, forceL_eq, Tr.putK_eq, putsBK_eq r]
theorem stK_eq (s : ASt) (f : List (Nat × SV)) (b : List (Nat × List SV)) (k : ASt → Prop) : stK s f b k = k (stOf s f b) := by
  simp only [stK, stOf, blankK_eq, putsK_eq, blankBK_eq, putsBK_eq]
theorem ax_sound [GlOk E H0 w0] (hE : EnvOk P E) (hm : P.follows .mixedOrders = true) : ∀ (c : Code) {Q : Exit → Act → World → Prop} {s : ASt} {K : Ex → ASt → Prop} {a : Act} {w : World},
    ax E c s K → Rel M w0 H0 s a w → (∀ e s' a' w', K e s' → Rel M w0 H0 s' a' w' → Q (exOf e) a' w') → c.wp P Q a w := by
  intro c
  induction c with
  | skip => intro Q s K a w h hr hq; exact wp_skip (hq .normal s a w h hr)
  | region id ops draw =>
    intro Q s K a w h hr hq
    cases draw with
    | false => exact region_sound hE id h hr fun s' a' w' hk hr' => hq .normal s' a' w' hk hr'
    | true => exact draw_sound hE hm id h.1 h.2 hr fun s' a' w' hk hr' => hq .normal s' a' w' hk hr'
  | seq x y ihx ihy =>
    intro Q s K a w h hr hq
    cases hc : cutAt E.bs y with
    | false =>
      simp only [ax, hc] at h
      refine wp_seq (ihx h hr ?_)
      intro e s' a' w' hk hr'
      cases e with
      | normal => exact ihy hk hr' hq
      | exit n => exact hq (.exit n) s' a' w' hk hr'
      | ret => exact hq .ret s' a' w' hk hr'
    | true =>
      simp only [ax, hc, stK_eq] at h
      obtain ⟨A, fs, bs, inv, h, hrest⟩ := h
      refine wp_seq (ihx h hr ?_)
      intro e s' a' w' hk hr'
      cases e with
      | normal =>
        obtain ⟨z, hz, hwk⟩ := hk
        exact ihy (hrest z hz) (hwk.rel hr') hq
      | exit n => exact hq (.exit n) s' a' w' hk hr'
      | ret => exact hq .ret s' a' w' hk hr'
  | cond c x y ihx ihy =>
    intro Q s K a w h hr hq
    have hr0 := hr
    obtain ⟨H, β, T, hf, hw⟩ := hr
    have hc := ev_G hf c
    simp only [ax] at h
    generalize hev : ev s c = p at h hc
    generalize hav : a.eval c = v at hc
    cases p with
    | tt => cases hc; exact wp_cond_true hav (ihx h hr0 hq)
    | ff => cases hc; exact wp_cond_false hav (ihy h hr0 hq)
    | val u =>
      obtain rfl := gval hc
      cases v with
      | bool t =>
        cases t with
        | true => exact wp_cond_true hav (ihx (h.1 rfl) hr0 hq)
        | false => exact wp_cond_false hav (ihy (h.2 rfl) hr0 hq)
      | _ => exact h.elim
    | nb Q0 =>
      cases hc with
      | nb _ b hb =>
        cases b with
        | true => exact wp_cond_true hav (ihx (h.1 hb) hr0 hq)
        | false => exact wp_cond_false hav (ihy (h.2 hb) hr0 hq)
    | _ => exact h.elim
  | block id x ih =>
    intro Q s K a w h hr hq
    refine wp_block (ih h hr ?_)
    intro e s' a' w' hk hr'
    cases e with
    | normal => exact hq .normal s' a' w' hk hr'
    | exit n =>
      show (if n = id then Q .normal a' w' else Q (.exit n) a' w')
      cases hb : Nat.beq n id with
      | true =>
        simp only [hb] at hk
        rw [if_pos (Nat.eq_of_beq_eq_true hb)]
        exact hq .normal s' a' w' hk hr'
      | false =>
        simp only [hb] at hk
        rw [if_neg (fun c => by rw [c, Nat.beq_refl] at hb; cases hb)]
        exact hq (.exit n) s' a' w' hk hr'
    | ret => exact hq .ret s' a' w' hk hr'
  | loop x ih =>
    intro Q s K a w h hr hq
    simp only [ax, stK_eq] at h
    obtain ⟨A, fs, bs, inv, μ, ⟨x0, hi0, hw0⟩, hround⟩ := h
    let tm : A → ASt := fun x => stOf s (fs x) (bs x)
    replace hw0 : Weak s (tm x0) := hw0
    refine wp_loop_ghost (fun n a w => ∃ z, inv z ∧ μ z = n ∧ Rel M w0 H0 (tm z) a w) (μ x0) ⟨x0, hi0, rfl, hw0.rel hr⟩ ?_
    rintro n a1 w1 ⟨z, hz, rfl, hrz⟩
    refine ih (hround z hz) hrz ?_
    intro e s' a' w' hk hr'
    cases e with
    | normal =>
      obtain ⟨y, hy, hlt, hwk⟩ := hk
      exact ⟨μ y, hlt, y, hy, rfl, hwk.rel hr'⟩
    | exit n => exact hq (.exit n) s' a' w' hk hr'
    | ret => exact hq .ret s' a' w' hk hr'
  | exit n => intro Q s K a w h hr hq; exact wp_exit (hq (.exit n) s a w h hr)
  | ret => intro Q s K a w h hr hq; exact wp_ret (hq .ret s a w h hr)
  | _ => intro Q s K a w h hr hq; exact h.elim
end

/-! ### 3. Functions -/
def isPlc : SV → Bool
  | .plc _ _ _ _ => true
  | _ => false
/-- the results' values -/
def resK (E : Env) : List ResultVar → ASt → (List SV → Prop) → Prop
  | [], _, k => k []
  | r :: rs, s, k => match r with
    | .tmp t => force (s.fr.get t .junk) fun v => resK E rs s fun l => k (v :: l)
    | .cell p t => match isPlc (s.fr.get p .junk) with
      | true => False
      | false => tiK E.ty t fun t => loadK t (s.fr.get p .junk) s.bx fun v => resK E rs s fun l => k (v :: l)
def res1 : List SV → SV
  | [x] => x
  | l => .tup l
/-- all rows that may grow bear one number -/
def ren (id : Nat) : SV → SV
  | .own T sz cs d l _ => .own T sz cs d l id
  | .agg l => .agg (rens id l)
  | .tup l => .tup (rens id l)
  | .fn g l => .fn g (rens id l)
  | x => x
where rens (id : Nat) : List SV → List SV
  | [] => []
  | x :: xs => ren id x :: rens id xs
theorem rens_length (id : Nat) : ∀ l : List SV, (ren.rens id l).length = l.length
  | [] => rfl
  | x :: xs => by simp [ren.rens, rens_length id xs]
theorem rens_at (id : Nat) : ∀ (l : List SV) (j : Nat), at' (ren.rens id l) j .junk = ren id (at' l j .junk)
  | [], _ => rfl
  | x :: xs, 0 => rfl
  | x :: xs, j + 1 => rens_at id xs j
theorem G.ren {H : HM} {β : BM} {T : TM} {s : SV} {v : Value} (h : G H β T s v) (id : Nat) : G H β (fun b o => (T b o).map fun _ => id) (Ax.ren id s) v := by
  induction h with
  | val v => exact .val v
  | tt => exact .tt
  | ff => exact .ff
  | junk v => exact .junk v
  | nb Q b h => exact .nb Q b h
  | rowE => exact .rowE ..
  | row X sz cs d l b off c vs hc hz hh hg ih => exact .row X sz cs d l b off c vs hc hz hh hg
  | ownE => exact .ownE ..
  | own X sz cs d l i b off c vs hc hz hh hg hT ih => exact .own X sz cs d l id b off c vs hc hz hh hg (fun o a e => by rw [hT o a e]; rfl)
  | elt X sz cs d l i o b p vs hz hh hg ih => exact .elt X sz cs d l i o b p vs hz hh hg
  | box b o k h => exact .box b o k h
  | arr b z o n cap k c h hc he => exact .arr b z o n cap k c h hc he
  | arrE b z o a c => exact .arrE ..
  | plc b z i o k hi h => exact .plc b z i o k hi h
  | ifc t v => exact .ifc t v
  | e0 a => exact .e0 a
  | agg l vs hn h ih => exact .agg _ vs (by rw [rens_length]; exact hn) fun j e => by rw [rens_at]; exact ih j (by rw [rens_length] at e; exact e)
  | tup l vs hn h ih => exact .tup _ vs (by rw [rens_length]; exact hn) fun j e => by rw [rens_at]; exact ih j (by rw [rens_length] at e; exact e)
  | fn g l vs hn h ih => exact .fn g _ vs (by rw [rens_length]; exact hn) fun j e => by rw [rens_at]; exact ih j (by rw [rens_length] at e; exact e)

/-- where a body begins -/
def st0 (args : List SV) (n : Nat) : ASt := ⟨(Tr.mk (.val undef) n n).fill 0 args, Tr.mk none n n⟩
theorem mk_has {α : Type _} (v : α) : ∀ (f n j : Nat), n ≤ f → (Tr.mk v f n).has j = decide (j < n)
  | 0, n, j, h => by obtain rfl : n = 0 := by omega
                     simp [Tr.mk, Tr.has]
  | f + 1, 0, j, h => by simp [Tr.mk, Tr.has]
  | f + 1, n + 1, 0, h => by simp [Tr.mk, Tr.has]
  | f + 1, n + 1, j + 1, h => by
    simp only [Tr.mk, Tr.has]
    have h1 : Nat.div (n + 1) 2 = (n + 1) / 2 := rfl
    have h2 : Nat.div n 2 = n / 2 := rfl
    rcases Tr.half j with ⟨e, ej⟩ | ⟨e, ej⟩ <;> rw [e]
    · simp only
      rw [mk_has v f _ _ (by omega), decide_eq_decide]
      omega
    · simp only
      rw [mk_has v f _ _ (by omega), decide_eq_decide]
      omega
theorem mk_get {α : Type _} (v : α) : ∀ (f n j : Nat) (d : α), n ≤ f → (Tr.mk v f n).get j d = if j < n then v else d
  | 0, n, j, d, h => by obtain rfl : n = 0 := by omega
                        simp [Tr.mk, Tr.get]
  | f + 1, 0, j, d, h => by simp [Tr.mk, Tr.get]
  | f + 1, n + 1, 0, d, h => by simp [Tr.mk, Tr.get]
  | f + 1, n + 1, j + 1, d, h => by
    simp only [Tr.mk, Tr.get]
    have h1 : Nat.div (n + 1) 2 = (n + 1) / 2 := rfl
    have h2 : Nat.div n 2 = n / 2 := rfl
    rcases Tr.half j with ⟨e, ej⟩ | ⟨e, ej⟩ <;> rw [e] <;> simp only
    · rw [mk_get v f _ _ _ (by omega)]
      by_cases c : Nat.div j 2 < Nat.div (n + 1) 2
      · rw [if_pos c, if_pos (by omega)]
      · rw [if_neg c, if_neg (by omega)]
    · rw [mk_get v f _ _ _ (by omega)]
      by_cases c : Nat.div j 2 < Nat.div n 2
      · rw [if_pos c, if_pos (by omega)]
      · rw [if_neg c, if_neg (by omega)]
theorem fill_has {α : Type _} : ∀ (l : List α) (t : Tr α) (i j : Nat), (t.fill i l).has j = t.has j
  | [], _, _, _ => rfl
  | x :: xs, t, i, j => by
    show ((t.put i x).fill (i + 1) xs).has j = _
    rw [fill_has xs, Tr.has_put]
theorem fill_get {α : Type _} (d : α) : ∀ (l : List α) (t : Tr α) (i j : Nat), (∀ q, q < i + l.length → t.has q = true) → (t.fill i l).get j d = if i ≤ j ∧ j < i + l.length then at' l (j - i) d else t.get j d
  | [], t, i, j, h => by
    rw [if_neg (by simp)]
    rfl
  | x :: xs, t, i, j, h => by
    show ((t.put i x).fill (i + 1) xs).get j d = _
    rw [fill_get d xs _ _ _ (fun q hq => by rw [Tr.has_put]; exact h q (by simp; omega))]
    by_cases c : i + 1 ≤ j ∧ j < i + 1 + xs.length
    · rw [if_pos c, if_pos (by simp; omega)]
      obtain ⟨q, rfl⟩ : ∃ q, j = i + 1 + q := ⟨j - (i + 1), by omega⟩
      rw [show i + 1 + q - (i + 1) = q by omega, show i + 1 + q - i = q + 1 by omega]
      rfl
    · rw [if_neg c, Tr.get_put]
      by_cases e : i = j
      · subst e
        rw [if_pos ⟨rfl, h i (by simp)⟩, if_pos (by simp)]
        rw [Nat.sub_self]
        rfl
      · rw [if_neg (fun c => e c.1), if_neg (by simp; omega)]
/-- a value out of a call's own new blocks, and plain values, alone -/
def scA (tb : List (Nat × List SV)) : SV → Prop → Prop
  | .arr b _ _ _ _, k => match lookT tb b with
    | some cs => manyK cs fun _ _ c _ _ => (∀ x, scal.scals (c x) = true) ∧ k
    | none => False
  | .agg l, k => scAs tb l k
  | .tup l, k => scAs tb l k
  | .val _, k => k
  | .tt, k => k
  | .ff, k => k
  | .junk, k => k
  | .ifc, k => k
  | .e0, k => k
  | _, _ => False
where scAs (tb : List (Nat × List SV)) : List SV → Prop → Prop
  | [], k => k
  | x :: xs, k => scA tb x (scAs tb xs k)
/-- what a body must come to -/
def endK (id : Nat) (r : SV) (fr : Bool) (x : SV) (s : ASt) : Prop := match hasB x with
  | false => match fr with
    | false => Sub (ren id x) r ∧ refOk .nil r = true
    | true => scal x = true ∧ Sub (ren id x) r ∧ refOk .nil r = true
  | true => gatherK s.bx 6 (boxesOf x []) [] fun tb => arrC tb x (arrT tb tb (match fr with
    | false => Sub (lendW (lendB tb 3) (lendR tb) x) r ∧ refOk .nil r = true
    | true => scA tb x (Sub (lendW (lendB tb 3) (lendR tb) x) r ∧ refOk .nil r = true)))
def PostG (E : Env) (rs : List ResultVar) (id : Nat) (r : SV) (fr : Bool) (e : Ex) (s : ASt) : Prop := match e with
  | .exit _ => False
  | _ => resK E rs s fun l => endK id r fr (res1 l) s
def Post (E : Env) (rs : List ResultVar) (id : Nat) (r : SV) (e : Ex) (s : ASt) : Prop := PostG E rs id r false e s

def okF (tb : List (Nat × List SV)) : SV → Prop
  | .arr b _ _ _ _ => ∃ X sz c d l, lookT tb b = some [.many X sz c d l] ∧ ∀ x, scal.scals (c x) = true
  | .agg l => okFs tb l
  | .tup l => okFs tb l
  | .val _ => True
  | .tt => True
  | .ff => True
  | .junk => True
  | .ifc => True
  | .e0 => True
  | _ => False
where okFs (tb : List (Nat × List SV)) : List SV → Prop
  | [] => True
  | x :: xs => okF tb x ∧ okFs tb xs
theorem okFs_at {tb : List (Nat × List SV)} : ∀ {l : List SV}, okF.okFs tb l → ∀ j, okF tb (at' l j .junk)
  | [], _, _ => trivial
  | x :: xs, h, 0 => h.1
  | x :: xs, h, j + 1 => okFs_at h.2 j
mutual
theorem scA_elim {tb : List (Nat × List SV)} : ∀ (x : SV) {k : Prop}, scA tb x k → okF tb x ∧ k
  | .arr b z o n c, k, h => by
    simp only [scA] at h
    cases hl : lookT tb b with
    | none => rw [hl] at h; exact h.elim
    | some cs =>
      rw [hl] at h
      obtain ⟨X, sz, c, d, l, rfl, h1, h2⟩ := manyK_elim h
      exact ⟨⟨X, sz, c, d, l, hl, h1⟩, h2⟩
  | .agg l, k, h => scAs_elim l h
  | .tup l, k, h => scAs_elim l h
  | .val _, k, h => ⟨trivial, h⟩
  | .tt, k, h => ⟨trivial, h⟩
  | .ff, k, h => ⟨trivial, h⟩
  | .junk, k, h => ⟨trivial, h⟩
  | .ifc, k, h => ⟨trivial, h⟩
  | .e0, k, h => ⟨trivial, h⟩
  | .fn _ _, k, h => h.elim
  | .row .., k, h => h.elim
  | .own .., k, h => h.elim
  | .elt .., k, h => h.elim
  | .box .., k, h => h.elim
  | .plc .., k, h => h.elim
  | .many .., k, h => h.elim
  | .nb _, k, h => h.elim
theorem scAs_elim {tb : List (Nat × List SV)} : ∀ (l : List SV) {k : Prop}, scA.scAs tb l k → okF.okFs tb l ∧ k
  | [], k, h => ⟨trivial, h⟩
  | x :: xs, k, h => by
    obtain ⟨h1, h2⟩ := scA_elim x h
    obtain ⟨h3, h4⟩ := scAs_elim xs h2
    exact ⟨⟨h1, h3⟩, h4⟩
end
/-- such a value hangs on the new blocks alone -/
theorem okF_G {tb : List (Nat × List SV)} {f : Nat → Nat → SV} {HL HN : HM} {β : BM} (hn : ∀ b cs k, lookT tb b = some cs → β b = some k → ∀ j, j < xlen cs → ∃ u, HN k j = some u ∧ ∃ (H : HM) (β' : BM) (T : TM), G H β' T (xat cs j) u) (hz : ∀ b X sz c d l, lookT tb b = some [.many X sz c d l] → 0 < sz ∧ ∀ x, (c x).length = sz ∧ imm.imms (c x) = true)
    {T : TM} {x : SV} {v : Value} (h : G HL β T x v) : okF tb x → allA (arrOk tb) x → G HN noB noT (lendW f (lendR tb) x) v := by
  induction h with
  | val v => intros; exact .val v
  | tt => intros; exact .tt
  | ff => intros; exact .ff
  | junk v => intros; exact .junk v
  | ifc t v => intros; exact .ifc t v
  | e0 a => intros; exact .e0 a
  | arrE b z o a c => intro _ _; exact lendR_zero tb b z o a c
  | arr b z o n cap k c hb hc he =>
    rintro ⟨X, sz, cc, d, l, hl, hsc⟩ hok
    rcases lendR_elim (tb := tb) (b := b) (z := z) (o := o) (n := n) with e | ⟨X', c', d', l', hl', e⟩
    · show G HN noB noT (lendR tb b z o n) _
      rw [e]; exact .junk _
    · show G HN noB noT (lendR tb b z o n) _
      rw [e]
      rw [hl] at hl'
      cases hl'
      obtain ⟨h0, hzz⟩ := hz _ _ _ _ _ _ hl
      refine row_of_many (fun x => (hzz x).1) (fun x => (hzz x).2) hc (hok _ _ _ _ _ hl) fun j hj => ?_
      obtain ⟨u, hu, H, β', T, hg⟩ := hn b _ k hl hb j hj
      have e1 : xat [SV.many X z cc d l] j = at' (cc (l.getD (j / z) d)) (j % z) .junk := rfl
      rw [e1] at hg
      refine ⟨u, hu, noB, noT, ?_⟩
      rw [e1]
      exact hg.scal (scals_at (hsc _) _ (by rw [(hzz _).1]; exact Nat.mod_lt _ h0)) _ _ _
  | agg l vs hn' h ih => intro hf ha; exact .agg _ vs (by rw [lendsW_length]; exact hn') fun j e => by rw [lendsW_at]; exact ih j (by rw [lendsW_length] at e; exact e) hn (okFs_at hf j) (allAs_at ha j)
  | tup l vs hn' h ih => intro hf ha; exact .tup _ vs (by rw [lendsW_length]; exact hn') fun j e => by rw [lendsW_at]; exact ih j (by rw [lendsW_length] at e; exact e) hn (okFs_at hf j) (allAs_at ha j)
  | _ => intro hf; exact hf.elim

section
variable {P : Program} {E : Env} {M : BM} {w0 : World} {H0 : HM}
def resM (tmps : Array Value) : ResultVar → Sem Value
  | .tmp t => pure (tmps.getD t undef)
  | .cell p t => do loadVar t (← asAddr (tmps.getD p undef))
theorem results_run (hE : EnvOk P E) {s : ASt} {a : Act} {w : World} {H : HM} {β : BM} {T : TM} (hf : FR H β T s.fr a) (hw : W M w0 H0 H β T s.bx w) : ∀ (rs : List ResultVar) (k : List SV → Prop), resK E rs s k →
    ∃ (l : List SV) (vs : List Value), k l ∧ vs.length = l.length ∧ (∀ j, j < l.length → G H β T (at' l j .junk) (vs.getD j undef)) ∧
      (rs.mapM (resM a.tmps)).run P w = .ok vs w
  | [], k, h => ⟨[], [], h, rfl, fun j hj => by simp at hj, rfl⟩
  | r :: rs, k, h => by
    have fin : ∀ (v : SV) (val : Value), G H β T v val → (resM a.tmps r).run P w = .ok val w →
        resK E rs s (fun l => k (v :: l)) → ∃ (l : List SV) (vs : List Value), k l ∧ vs.length = l.length ∧ (∀ j, j < l.length → G H β T (at' l j .junk) (vs.getD j undef)) ∧
      ((r :: rs).mapM (resM a.tmps)).run P w = .ok vs w := by
      intro v val hg hrun hk
      obtain ⟨l, vs, h1, h2, h3, h4⟩ := results_run hE hf hw rs _ hk
      refine ⟨v :: l, val :: vs, h1, by simp [h2], fun j hj => ?_, ?_⟩
      · cases j with
        | zero => exact hg
        | succ j => exact h3 j (by simpa using hj)
      · rw [List.mapM_cons, Sem.run_bind]
        have : ∀ (X : Sem Value), X.run P w = .ok val w → ((X.run P w).andThen fun a_1 w' => (do let __do_lift ← (rs.mapM (resM a.tmps)); pure (a_1 :: __do_lift) : Sem (List Value)).run P w') = .ok (val :: vs) w := by
          intro X hX
          rw [hX, Result.andThen_ok, Sem.run_bind, h4]
          rfl
        exact this _ hrun
    cases r with
    | tmp t =>
      simp only [resK, force_eq] at h
      exact fin _ _ (ev_G hf (.tmp t)) rfl h
    | cell p t =>
      simp only [resK] at h
      have hplc : ∀ b z i q, s.fr.get p .junk ≠ .plc b z i q := by
        intro b z i q e
        rw [e] at h
        exact h.elim
      cases hip : isPlc (s.fr.get p .junk) with
      | true => rw [hip] at h; exact h.elim
      | false =>
      rw [hip] at h
      simp only at h
      obtain ⟨ti, hti, h⟩ := tiK_elim h
      have hT := hE.ty _ _ hti
      have hx := ev_G hf (.tmp p)
      have h1 : ti.agg = false → 0 < ti.size := hT.one
      have run : ∀ (b q : Nat) (f : Nat → Value), a.tmps.getD p undef = .pointer (some ⟨b, q, none⟩) → (∀ j, j < ti.size → w.cell? ⟨b, q + j, none⟩ = some (f j)) →
          (do loadVar t (← asAddr (a.tmps.getD p undef)) : Sem Value).run P w = .ok (if ti.agg then .agg ((List.range ti.size).map f).toArray else f 0) w := by
        intro b q f hp hc
        rw [Sem.run_bind, hp]
        show (loadVar t ⟨b, q, none⟩).run P w = _
        exact run_loadVar hT b q f hc h1
      unfold loadK at h
      replace hx : G H β T (s.fr.get p .junk) (a.tmps.getD p undef) := hx
      generalize hev : s.fr.get p .junk = pv at h hx
      cases pv with
      | box b q =>
        simp only at h
        cases hb : s.bx.get b none with
        | none => rw [hb] at h; exact h.elim
        | some cs =>
          rw [hb] at h
          simp only at h
          cases hpl : plain cs with
          | false => rw [hpl] at h; exact h.elim
          | true =>
          rw [hpl] at h
          simp only at h
          obtain ⟨hx1, hx0⟩ := xlen_plain hpl
          cases hle : Nat.ble (q + ti.size) cs.length with
          | false => rw [hle] at h; exact h.elim
          | true =>
            rw [hle] at h
            simp only [wholeK_eq] at h
            have hle' := Nat.le_of_ble_eq_true hle
            generalize hav : a.tmps.getD p undef = val at hx
            cases hx with
            | box _ _ kk hβ =>
              obtain ⟨k2, hk2, -, hj⟩ := hw.box b cs hb (by omega)
              obtain rfl : kk = k2 := Option.some.inj (hβ.symm.trans hk2)
              have hc : ∀ j, ∃ v, j < ti.size → w.cell? ⟨kk, q + j, none⟩ = some v ∧ G H β T (at' cs (q + j) .junk) v := fun j => by
                by_cases hlt : j < ti.size
                · obtain ⟨-, -, -, v, h4, h5⟩ := hj (q + j) (by omega)
                  rw [xat_plain hpl] at h5
                  exact ⟨v, fun _ => ⟨h4, h5⟩⟩
                · exact ⟨undef, fun c => absurd c hlt⟩
              refine fin _ _ (whole_G (takeDrop_length cs ti.size q hle') (f := fun j => Classical.choose (hc j)) (fun j hlt => ?_) ti.agg h1) (run kk q _ hav fun j hlt => (Classical.choose_spec (hc j) hlt).1) h
              rw [at'_takeDrop _ _ _ _ _ hlt]
              exact (Classical.choose_spec (hc j) hlt).2
      | plc b z i q =>
        exfalso
        exact hplc b z i q hev
      | elt X z cs d l i q =>
        simp only at h
        cases hle : Nat.ble (q + ti.size) z with
        | false => rw [hle] at h; exact h.elim
        | true =>
          rw [hle] at h
          simp only at h
          cases hfree : ownFree.ownFrees (takeN ti.size (dropN q (cs (l.getD i.toNat d)))) with
          | false => rw [hfree] at h; exact h.elim
          | true =>
          rw [hfree] at h
          simp only [wholeK_eq] at h
          have hle' := Nat.le_of_ble_eq_true hle
          generalize hav : a.tmps.getD p undef = val at hx
          cases hx with
          | elt _ _ _ _ _ _ _ b p' vs hz hH hG =>
            refine fin _ _ (whole_G (takeDrop_length _ ti.size q (by omega)) (f := fun j => vs (q + j)) (fun j hlt => ?_) ti.agg h1) (run b (p' + q) _ hav fun j hlt => ?_) h
            · rw [at'_takeDrop _ _ _ _ _ hlt]
              exact (hG (q + j) (by omega)).mono (.refl _) (noB_le _) (noT_le _)
            · rw [Nat.add_assoc]
              exact (hw.lies _ _ _ (hH (q + j) (by omega))).1
      | _ => exact h.elim

theorem results_G (hE : EnvOk P E) {s : ASt} {a : Act} {w : World} {H : HM} {β : BM} {T : TM} (hf : FR H β T s.fr a) (hw : W M w0 H0 H β T s.bx w) (fn : Func) (k : List SV → Prop) (h : resK E fn.results.toList s k) :
    ∃ (l : List SV) (v : Value), k l ∧ G H β T (res1 l) v ∧ (results fn a.tmps).run P w = .ok v w := by
  obtain ⟨l, vs, h1, h2, h3, h4⟩ := results_run hE hf hw fn.results.toList k h
  refine ⟨l, if h : vs.length = 1 then vs[0] else .tuple vs.toArray, h1, ?_, ?_⟩
  · by_cases hl : vs.length = 1
    · rw [dif_pos hl]
      match l, vs, h2, hl, h3 with
      | [x], [v], _, _, h3 => exact h3 0 (by simp)
      | [], [_], h2, _, _ => simp at h2
      | _ :: _ :: _, [_], h2, _, _ => simp at h2
    · rw [dif_neg hl]
      have hr : res1 l = .tup l := by
        match l, h2 with
        | [], _ => rfl
        | [_], h2 => exact absurd h2 hl
        | _ :: _ :: _, _ => rfl
      rw [hr]
      refine .tup l vs.toArray (by simpa using h2) fun j hj => ?_
      have := h3 j hj
      rw [← getD_toList]
      simpa using this
  · rw [show results fn a.tmps = (do let vs ← fn.results.mapM (resM a.tmps); pure (if h : vs.size = 1 then vs[0] else .tuple vs)) from rfl]
    rw [Array.mapM_eq_mapM_toList]
    rw [Sem.run_bind, Sem.run_map, h4]
    simp only [Result.andThen_ok, Sem.run_pure]
    congr 1

/-- A contract out of the body; the callees' contracts may be chosen case by case. -/
theorem ctr_of_axG (hm : P.follows .mixedOrders = true) {g : Nat} {fn : Func} {body : Code} (c : Ctr) (hf : P.funcs[g]? = some fn) (hname : (fn.name == "runtime.NumGoroutine") = false) (hb : fn.body = some body)
    (hlen : ∀ x, c.dom x → (c.enc x).length ≤ fn.ntmps) (h : ∀ (x : c.A) (id : Nat), c.dom x → ∃ E, EnvOk P E ∧ (∀ w, c.gl w → E.gl w) ∧ ax E body (st0 (c.enc x) fn.ntmps) (PostG E fn.results.toList id (c.res x id) c.fresh)) : CtrSound P g c := by
  refine ⟨⟨fn, hf, hname, by rw [hb]; rfl⟩, ?_⟩
  intro x H w vs id hd hseal hgl hsz hG
  obtain ⟨E, hE, hEg, hax⟩ := h x id hd
  haveI : GlOk E H w := ⟨fun w' hs hsh => hEg w' (hgl w' hs hsh)⟩
  have hlen := hlen x hd
  refine calls_of_wp hf hb ?_
  have hnone : ∀ id, (Tr.mk (none : Option (List SV)) fn.ntmps fn.ntmps).get id none = none := by
    intro id
    rw [mk_get _ _ _ _ _ (Nat.le_refl _)]
    split <;> rfl
  have hr : Rel noB w H (st0 (c.enc x) fn.ntmps) { tmps := vs ++ Array.replicate (fn.ntmps - vs.size) undef, defers := [] } w := by
    refine ⟨H, noB, noT, ⟨?_, rfl, ?_⟩, ⟨fun b o v e => ⟨hseal b o v e, rfl⟩, fun id cs e _ => (by rw [show (st0 (c.enc x) fn.ntmps).bx = Tr.mk none fn.ntmps fn.ntmps from rfl, hnone] at e; cases e), fun _ _ e => (by cases e), fun _ _ _ e => (by cases e), fun _ _ _ e => (by cases e), fun _ _ _ e => (by cases e), fun _ _ e => (by cases e), fun id X sz cs d l e => (by rw [show (st0 (c.enc x) fn.ntmps).bx = Tr.mk none fn.ntmps fn.ntmps from rfl, hnone] at e; cases e), fun _ _ e => (by cases e), fun _ _ _ => rfl, ⟨rfl, rfl, rfl, Nat.le_refl _, fun _ _ _ => rfl, fun _ _ => rfl⟩, .refl _, fun _ _ _ => .inr rfl, fun _ e => by obtain ⟨_, e | ⟨_, e, _⟩⟩ := e <;> cases e⟩⟩
    · intro j hj
      simp only [st0, fill_has, mk_has _ _ _ _ (Nat.le_refl _), decide_eq_true_eq] at hj
      simp
      omega
    intro j
    show G H noB noT (((Tr.mk (.val undef) fn.ntmps fn.ntmps).fill 0 (c.enc x)).get j .junk) _
    rw [fill_get _ _ _ _ _ (fun q hq => by rw [mk_has _ _ _ _ (Nat.le_refl _)]; simp; omega)]
    by_cases hl : j < (c.enc x).length
    · rw [if_pos (by omega), Nat.sub_zero]
      have e2 : (vs ++ Array.replicate (fn.ntmps - vs.size) undef).getD j undef = vs.getD j undef := by
        simp [Array.getD_eq_getD_getElem?, Array.getElem?_append, show j < vs.size by omega]
      rw [e2]
      exact hG j hl
    · rw [if_neg (by omega), mk_get _ _ _ _ _ (Nat.le_refl _)]
      by_cases hn : j < fn.ntmps
      · rw [if_pos hn]
        have e2 : (vs ++ Array.replicate (fn.ntmps - vs.size) undef).getD j undef = undef := by
          have h2 : j - vs.size < fn.ntmps - vs.size := by omega
          simp [Array.getD_eq_getD_getElem?, Array.getElem?_append, show ¬ j < vs.size by omega, h2]
        rw [e2]
        exact .val _
      · rw [if_neg hn]; exact .junk _
  refine ax_sound hE hm body hax hr ?_
  intro e s' a' w' hp hr'
  have main : resK E fn.results.toList s' (fun l => endK id (c.res x id) c.fresh (res1 l) s') → a'.defers = [] ∧ ∃ v, (results fn a'.tmps).run P w' = .ok v w' ∧ ∃ v' H' T', Ending.returned v = .returned v' ∧ Below w.heap.size w w' ∧ HLe H H' ∧ (∀ b o, b < w.heap.size → H' b o = H b o) ∧
      (∀ b o i, T' b o = some i → w.heap.size ≤ b ∧ (w'.cell? ⟨b, o, none⟩).isSome = true ∧ w'.frozen? ⟨b, o, none⟩ = false) ∧
      (∀ b o v, H' b o = some v → w'.cell? ⟨b, o, none⟩ = some v ∧ T' b o = none) ∧ G H' noB T' (c.res x id) v' ∧ (c.fresh = true → G (newH w H') noB T' (c.res x id) v') := by
    intro hp
    obtain ⟨H', β, T, hf', hw'⟩ := hr'
    obtain ⟨l, v, h1, h3, h4⟩ := results_G hE hf' hw' fn _ hp
    have hloc : ∀ i k, β i = some k → w.heap.size ≤ k := by
      intro i k e
      rcases (hw'.mine i k e).1 with ⟨j, c⟩ | c
      · cases c
      · exact c
    have hbelow : Below w.heap.size w w' := ⟨hw'.keep.os, hw'.keep.tape, hw'.keep.output, hw'.keep.size, fun k hk => hw'.keep.block k hk (fun ⟨_, c⟩ => by cases c)⟩
    have htail : ∀ b o i, (fun b o => (T b o).map fun _ => id : TM) b o = some i → w.heap.size ≤ b ∧ (w'.cell? ⟨b, o, none⟩).isSome = true ∧ w'.frozen? ⟨b, o, none⟩ = false := by
      intro b o i e
      replace e : (T b o).map (fun _ => id) = some i := e
      cases ht : T b o with
      | none => rw [ht] at e; cases e
      | some i' =>
        obtain ⟨a1, a2, a3⟩ := hw'.tail b o i' ht
        exact ⟨a1.noB, a2, a3⟩
    unfold endK at h1
    cases hB : hasB (res1 l) with
    | false =>
      rw [hB] at h1
      have hsub : (c.fresh = true → scal (res1 l) = true) ∧ Sub (ren id (res1 l)) (c.res x id) ∧ refOk .nil (c.res x id) = true := by
        cases hfr : c.fresh with
        | false => rw [hfr] at h1; exact ⟨fun e => (by cases e), h1⟩
        | true => rw [hfr] at h1; exact ⟨fun _ => h1.1, h1.2⟩
      obtain ⟨hs0, hs1, hs2⟩ := hsub
      have fin : ∀ H2 : HM, G H2 β T (res1 l) v → G H2 noB (fun b o => (T b o).map fun _ => id) (c.res x id) v := by
        intro H2 hg
        have := ((hg.ren id).sub hs1).forget .nil hs2
        refine this.mono (.refl _) ?_ (.refl _)
        intro b k e
        simp [restr, Tr.get] at e
      refine ⟨hf'.defers, v, h4, v, H', (fun b o => (T b o).map fun _ => id), rfl, hbelow, hw'.ext, fun b o hlt => noRoom (hw'.fresh b o hlt), htail, ?_, fin H' h3, fun hfr => fin _ (h3.scal (hs0 hfr) _ _ _)⟩
      intro b o v e
      obtain ⟨a1, a2⟩ := hw'.lies b o v e
      exact ⟨a1, by show (T b o).map (fun _ => id) = none; rw [a2]; rfl⟩
    | true =>
      rw [hB] at h1
      obtain ⟨tb, harr, ht, -⟩ := gatherK_rel (fun _ _ h => h) 6 _ [] _ (fun _ _ e => by cases e) h1
      obtain ⟨ha1, harr2⟩ := arrC_elim _ harr
      obtain ⟨ha2, hend⟩ := arrT_elim tb harr2
      have hsub : (c.fresh = true → okF tb (res1 l)) ∧ Sub (lendW (lendB tb 3) (lendR tb) (res1 l)) (c.res x id) ∧ refOk .nil (c.res x id) = true := by
        cases hfr : c.fresh with
        | false => rw [hfr] at hend; exact ⟨fun e => (by cases e), hend⟩
        | true => rw [hfr] at hend; obtain ⟨g1, g2⟩ := scA_elim _ hend; exact ⟨fun _ => g1, g2⟩
      obtain ⟨hs0, hs1, hs2⟩ := hsub
      let S : Nat → Prop := fun _ => True
      have hH : HLe H (lent S H' β s'.bx w') := hw'.ext.trans (lent_ext S hw')
      have hold : ∀ b o, b < w.heap.size → lent S H' β s'.bx w' b o = H b o := by
        intro b o hlt
        unfold lent
        rw [if_neg]
        · exact noRoom (hw'.fresh b o hlt)
        · rintro ⟨i, cs, -, -, h2, -⟩
          have := hloc _ _ h2
          omega
      refine ⟨hf'.defers, v, h4, v, lent S H' β s'.bx w', (fun b o => (T b o).map fun _ => id), rfl, hbelow, hH, hold, htail, ?_, ?_, fun hfr => ?_⟩
      · intro b o u e
        exact ⟨lent_lies S hw' _ _ _ e, by show (T b o).map (fun _ => id) = none; rw [lent_T S hw' _ _ _ e]; rfl⟩
      · exact ((lend_G hw' (S := S) (fun _ _ _ => trivial) ht ha2 3 ha1 h3).sub hs1).mono (.refl _) (noB_le _) (noT_le _)
      · refine ((okF_G (HN := newH w (lent S H' β s'.bx w')) (f := lendB tb 3) (fun b cs k e1 e2 j hj => ?_) (fun b X sz cc d l e => ?_) h3 (hs0 hfr) ha1).sub hs1).mono (.refl _) (noB_le _) (noT_le _)
        · obtain ⟨k', hk', -, hj2⟩ := hw'.box b cs (ht _ _ e1) (by omega)
          obtain rfl : k = k' := Option.some.inj (e2.symm.trans hk')
          obtain ⟨-, -, -, u, hu, hg⟩ := hj2 j hj
          refine ⟨u, ?_, H', β, T, hg⟩
          unfold newH
          rw [if_neg (by have := hloc _ _ e2; omega)]
          unfold lent
          rw [if_pos ⟨b, cs, trivial, ht _ _ e1, e2, hj⟩, hu]
        · obtain ⟨g1, g2⟩ := hw'.many _ _ _ _ _ _ (ht _ _ e)
          exact ⟨g1, fun x => ⟨(g2 x).1, (g2 x).2.1⟩⟩
  cases e with
  | normal => exact main hp
  | exit n => exact hp.elim
  | ret => exact main hp
theorem ctr_of_ax2 (hm : P.follows .mixedOrders = true) {g : Nat} {fn : Func} {body : Code} (c : Ctr) (hf : P.funcs[g]? = some fn) (hname : (fn.name == "runtime.NumGoroutine") = false) (hb : fn.body = some body)
    (hlen : ∀ x, c.dom x → (c.enc x).length ≤ fn.ntmps) (h : ∀ (x : c.A) (id : Nat), c.dom x → ∃ E, (EnvOk P E ∧ ∀ w, c.gl w → E.gl w) ∧ ax E body (st0 (c.enc x) fn.ntmps) (Post E fn.results.toList id (c.res x id)))
    (hfr : c.fresh = false := by rfl) : CtrSound P g c :=
  ctr_of_axG hm c hf hname hb hlen fun x id hd => by
    obtain ⟨E, ⟨hE, hgl⟩, hax⟩ := h x id hd
    refine ⟨E, hE, hgl, ?_⟩
    rw [hfr]; exact hax
theorem ctr_of_ax (hE : EnvOk P E) (hm : P.follows .mixedOrders = true) {g : Nat} {fn : Func} {body : Code} (c : Ctr) (hf : P.funcs[g]? = some fn) (hname : (fn.name == "runtime.NumGoroutine") = false) (hb : fn.body = some body) (hlen : ∀ x, c.dom x → (c.enc x).length ≤ fn.ntmps)
    (h : ∀ (x : c.A) (id : Nat), c.dom x → ax E body (st0 (c.enc x) fn.ntmps) (Post E fn.results.toList id (c.res x id)))
    (hgl : ∀ w, c.gl w → E.gl w := by intro _ h; exact h) (hfr : c.fresh = false := by rfl) : CtrSound P g c :=
  ctr_of_axG hm c hf hname hb hlen fun x id hd => ⟨E, hE, hgl, by rw [hfr]; exact h x id hd⟩
/-- what it answers lies in blocks of its own -/
theorem ctrF_of_ax (hE : EnvOk P E) (hm : P.follows .mixedOrders = true) {g : Nat} {fn : Func} {body : Code} (c : Ctr) (hf : P.funcs[g]? = some fn) (hname : (fn.name == "runtime.NumGoroutine") = false) (hb : fn.body = some body) (hlen : ∀ x, c.dom x → (c.enc x).length ≤ fn.ntmps)
    (h : ∀ (x : c.A) (id : Nat), c.dom x → ax E body (st0 (c.enc x) fn.ntmps) (PostG E fn.results.toList id (c.res x id) c.fresh))
    (hgl : ∀ w, c.gl w → E.gl w := by intro _ h; exact h) : CtrSound P g c :=
  ctr_of_axG hm c hf hname hb hlen fun x id hd => ⟨E, hE, hgl, h x id hd⟩

/-! ### 4. Functions that change variables -/
/-- where such a body begins -/
def stB (args : List SV) (pre : List (List SV)) (n : Nat) : ASt := ⟨(Tr.mk (.val undef) n n).fill 0 args, treeOf 1000 pre (Tr.mk none n n)⟩
/-- a variable of the body's own that a value names -/
def madeN : List Nat → Option Nat
  | [] => none
  | b :: r => match Nat.blt b 1000 with
    | true => some b
    | false => madeN r
def madeP {α : Type _} (post : List α) (l : List Nat) : Option Nat := match post with
  | [] => none
  | _ :: _ => madeN l
/-- the name of a variable behind the body: n: of the one that it made -/
def outN (nw : Option Nat) (n : Nat) (b : Nat) : Option Nat := match Nat.blt b 1000 with
  | false => match Nat.blt b n with
    | true => some b
    | false => none
  | true => match nw with
    | some b' => match Nat.beq b b' with
      | true => some n
      | false => none
    | none => none
def postL (f ow : Nat → Option Nat) (bx : Tr (Option (List SV))) : Nat → Nat → Option Nat → List (List SV) → Prop
  | i, n + 1, nw, p :: ps => match bx.get i none with
    | some cs => forceL (nmW.nmsW f ow cs) fun cs => subC cs p ∧ postL f ow bx (i + 1) n nw ps
    | none => False
  | _, 0, _, [] => True
  | _, 0, nw, [p] => match nw with
    | some b => match bx.get b none with
      | some cs => forceL (nmW.nmsW f ow cs) fun cs => subC cs p
      | none => False
    | none => False
  | _, _, _, _ => False
/-- the rows' numbers in the handed variables, and their names behind the body -/
def ownTC (id : Nat) : List SV → Nat → List (Nat × Nat) → (List (Nat × Nat) → Prop) → Prop
  | [], _, tb, k => k tb
  | x :: r, j, tb, k => match x with
    | .own _ _ _ _ _ m => ownTC id r (Nat.succ j) (tb ++ [(m, Nat.add id (Nat.mul 100000 (Nat.succ j)))]) k
    | _ => ownTC id r (Nat.succ j) tb k
def ownTK (bx : Tr (Option (List SV))) (id : Nat) : Nat → Nat → Nat → List (Nat × Nat) → (List (Nat × Nat) → Prop) → Prop
  | 0, _, _, tb, k => k tb
  | f + 1, i, p, tb, k => match bx.get i none with
    | none => ownTK bx id f (Nat.succ i) (Nat.add p 64) tb k
    | some cs => ownTC id cs p tb fun tb => ownTK bx id f (Nat.succ i) (Nat.add p 64) tb k
def lookO (id : Nat) : List (Nat × Nat) → Nat → Option Nat
  | [], _ => some id
  | (a, b) :: r, m => match Nat.beq a m with
    | true => some b
    | false => lookO id r m
theorem ownTC_elim {id : Nat} : ∀ {l : List SV} {j : Nat} {tb : List (Nat × Nat)} {k : List (Nat × Nat) → Prop}, ownTC id l j tb k → ∃ tb, k tb
  | [], _, tb, _, h => ⟨tb, h⟩
  | x :: r, j, tb, k, h => by
    unfold ownTC at h
    split at h <;> exact ownTC_elim h
theorem ownTK_elim {bx : Tr (Option (List SV))} {id : Nat} : ∀ {f i p : Nat} {tb : List (Nat × Nat)} {k : List (Nat × Nat) → Prop}, ownTK bx id f i p tb k → ∃ tb, k tb
  | 0, _, _, tb, _, h => ⟨tb, h⟩
  | f + 1, i, p, tb, k, h => by
    unfold ownTK at h
    split at h
    · exact ownTK_elim h
    · obtain ⟨tb, h⟩ := ownTC_elim h
      exact ownTK_elim h
/-- what such a body must come to -/
def PostB (E : Env) (rs : List ResultVar) (id n : Nat) (post : List (List SV)) (r : SV) (e : Ex) (s : ASt) : Prop := match e with
  | .exit _ => False
  | _ => resK E rs s fun l => ownTK s.bx id n 1000 0 [] fun tb => (fun nw => force (nmW (outN nw (1000 + n)) (lookO id tb) (res1 l)) fun v => Sub v r ∧ postL (outN nw (1000 + n)) (lookO id tb) s.bx 1000 n nw post) (madeP (dropN n post) (boxesOf (res1 l) []))
theorem madeN_lt : ∀ {l : List Nat} {b : Nat}, madeN l = some b → b < 1000
  | x :: r, b, h => by
    unfold madeN at h
    cases hx : Nat.blt x 1000 with
    | true => rw [hx] at h; cases h; simpa [Nat.blt_eq] using hx
    | false => rw [hx] at h; exact madeN_lt h
theorem dropN_nil {α : Type _} : ∀ (n : Nat) (l : List α), l.length ≤ n → dropN n l = []
  | 0, [], _ => rfl
  | 0, _ :: _, h => by simp at h
  | n + 1, [], _ => rfl
  | n + 1, x :: xs, h => dropN_nil n xs (by simpa using h)
theorem madeP_spec {α : Type _} {n : Nat} {post : List α} {l : List Nat} {b : Nat} (h : madeP (dropN n post) l = some b) : b < 1000 ∧ n < post.length := by
  unfold madeP at h
  cases e : dropN n post with
  | nil => rw [e] at h; cases h
  | cons x xs =>
    rw [e] at h
    refine ⟨madeN_lt h, ?_⟩
    by_cases c : n < post.length
    · exact c
    · rw [dropN_nil n post (by omega)] at e; cases e
theorem outN_spec {nw : Option Nat} {n b b' : Nat} (h : outN nw n b = some b') : (1000 ≤ b ∧ b < n ∧ b' = b) ∨ (b < 1000 ∧ nw = some b ∧ b' = n) := by
  unfold outN at h
  cases hb : Nat.blt b 1000 with
  | false =>
    rw [hb] at h
    simp only at h
    cases hn : Nat.blt b n with
    | false => rw [hn] at h; cases h
    | true =>
    rw [hn] at h
    cases h
    refine .inl ⟨?_, by simpa [Nat.blt_eq] using hn, rfl⟩
    rcases Nat.lt_or_ge b 1000 with c | c
    · rw [show Nat.blt b 1000 = true from by simpa [Nat.blt_eq] using c] at hb; cases hb
    · exact c
  | true =>
    rw [hb] at h
    cases nw with
    | none => cases h
    | some c =>
      simp only at h
      cases e : Nat.beq b c with
      | false => rw [e] at h; cases h
      | true =>
        rw [e] at h
        cases h
        exact .inr ⟨by simpa [Nat.blt_eq] using hb, by rw [Nat.eq_of_beq_eq_true e], rfl⟩
theorem postL_spec {f ow : Nat → Option Nat} {bx : Tr (Option (List SV))} {nw : Option Nat} : ∀ {n i : Nat} {post : List (List SV)}, postL f ow bx i n nw post →
    n ≤ post.length ∧ post.length ≤ n + 1 ∧ (∀ q p, q < n → post[q]? = some p → ∃ cs, bx.get (i + q) none = some cs ∧ subC (nmW.nmsW f ow cs) p) ∧
      (post.length = n + 1 → ∃ b cs p, nw = some b ∧ bx.get b none = some cs ∧ post[n]? = some p ∧ subC (nmW.nmsW f ow cs) p)
  | n + 1, i, [], h => h.elim
  | n + 1, i, p :: ps, h => by
    unfold postL at h
    cases hb : bx.get i none with
    | none => rw [hb] at h; exact h.elim
    | some cs =>
      rw [hb] at h
      simp only [forceL_eq] at h
      obtain ⟨h1, h2⟩ := h
      obtain ⟨a1, a2, a3, a4⟩ := postL_spec h2
      refine ⟨by simp; omega, by simp; omega, fun q p' hq e => ?_, fun e => ?_⟩
      · cases q with
        | zero => simp at e; subst e; exact ⟨cs, hb, h1⟩
        | succ q =>
          obtain ⟨cs', b1, b2⟩ := a3 q p' (by omega) (by simpa using e)
          exact ⟨cs', by rw [show i + (q + 1) = i + 1 + q by omega]; exact b1, b2⟩
      · obtain ⟨b, cs', p', b1, b2, b3, b4⟩ := a4 (by simpa using e)
        exact ⟨b, cs', p', b1, b2, by simpa using b3, b4⟩
  | 0, i, [], _ => ⟨Nat.le_refl _, by simp, fun q p hq => by omega, fun e => by simp at e⟩
  | 0, i, [p], h => by
    refine ⟨by simp, by simp, fun q p hq => by omega, fun _ => ?_⟩
    unfold postL at h
    cases nw with
    | none => exact h.elim
    | some b =>
      simp only at h
      cases hb : bx.get b none with
      | none => rw [hb] at h; exact h.elim
      | some cs => rw [hb] at h; simp only [forceL_eq] at h; exact ⟨b, cs, p, rfl, hb, rfl, h⟩
  | 0, i, _ :: _ :: _, h => h.elim
theorem ctrB_of_ax2 (hm : P.follows .mixedOrders = true) {g : Nat} {fn : Func} {body : Code} (c : CtrB) (hf : P.funcs[g]? = some fn) (hname : (fn.name == "runtime.NumGoroutine") = false) (hb : fn.body = some body)
    (hlen : ∀ x, c.dom x → (c.enc x).length ≤ fn.ntmps ∧ (c.pre x).length ≤ 100)
    (h : ∀ (x : c.A) (id : Nat), c.dom x → ∃ E, (EnvOk P E ∧ ∀ w, c.gl w → E.gl w) ∧ ax E body (stB (c.enc x) (c.pre x) fn.ntmps) (PostB E fn.results.toList id (c.pre x).length (c.post x id) (c.res x id))) : CtrBSound P g c := by
  refine ⟨⟨fn, hf, hname, by rw [hb]; rfl⟩, ?_⟩
  intro x H β T0 rb w vs id hd hsep hW hgl hsz hG
  obtain ⟨E, ⟨hE, hEg⟩, hax⟩ := h x id hd
  haveI : GlOk E H w := ⟨fun w' hs hsh => hEg w' (hgl w' hs hsh)⟩
  obtain ⟨hlen, hpre⟩ := hlen x hd
  refine calls_of_wp hf hb ?_
  have hnone : ∀ id, (Tr.mk (none : Option (List SV)) fn.ntmps fn.ntmps).get id none = none := by
    intro id
    rw [mk_get _ _ _ _ _ (Nat.le_refl _)]
    split <;> rfl
  have hW0 : W (mB β rb) w H H β T0 (stB (c.enc x) (c.pre x) fn.ntmps).bx w := hW.congr fun i => by
    show (treeOf 1000 (c.pre x) (Tr.mk none fn.ntmps fn.ntmps)).get i none = _
    rw [treeOf_get _ _ _ _ (by omega), treeOf_get _ _ _ _ (by omega), hnone]
    rfl
  have hr : Rel (mB β rb) w H (stB (c.enc x) (c.pre x) fn.ntmps) { tmps := vs ++ Array.replicate (fn.ntmps - vs.size) undef, defers := [] } w := by
    refine ⟨H, β, T0, ⟨?_, rfl, ?_⟩, hW0⟩
    · intro j hj
      simp only [stB, fill_has, mk_has _ _ _ _ (Nat.le_refl _), decide_eq_true_eq] at hj
      simp
      omega
    intro j
    show G H β T0 (((Tr.mk (.val undef) fn.ntmps fn.ntmps).fill 0 (c.enc x)).get j .junk) _
    rw [fill_get _ _ _ _ _ (fun q hq => by rw [mk_has _ _ _ _ (Nat.le_refl _)]; simp; omega)]
    by_cases hl : j < (c.enc x).length
    · rw [if_pos (by omega), Nat.sub_zero]
      have e2 : (vs ++ Array.replicate (fn.ntmps - vs.size) undef).getD j undef = vs.getD j undef := by
        simp [Array.getD_eq_getD_getElem?, Array.getElem?_append, show j < vs.size by omega]
      rw [e2]
      exact hG j hl
    · rw [if_neg (by omega), mk_get _ _ _ _ _ (Nat.le_refl _)]
      by_cases hn : j < fn.ntmps
      · rw [if_pos hn]
        have e2 : (vs ++ Array.replicate (fn.ntmps - vs.size) undef).getD j undef = undef := by
          have h2 : j - vs.size < fn.ntmps - vs.size := by omega
          simp [Array.getD_eq_getD_getElem?, Array.getElem?_append, show ¬ j < vs.size by omega, h2]
        rw [e2]
        exact .val _
      · rw [if_neg hn]; exact .junk _
  refine ax_sound hE hm body hax hr ?_
  intro e s' a' w' hp hr'
  have main : resK E fn.results.toList s' (fun l => ownTK s'.bx id (c.pre x).length 1000 0 [] fun tb => (fun nw => force (nmW (outN nw (1000 + (c.pre x).length)) (lookO id tb) (res1 l)) fun v => Sub v (c.res x id) ∧ postL (outN nw (1000 + (c.pre x).length)) (lookO id tb) s'.bx 1000 (c.pre x).length nw (c.post x id)) (madeP (dropN (c.pre x).length (c.post x id)) (boxesOf (res1 l) []))) →
      a'.defers = [] ∧ ∃ v, (results fn a'.tmps).run P w' = .ok v w' ∧ ∃ v' H' β' T', Ending.returned v = .returned v' ∧ W (mB (newM β β' (1000 + (c.pre x).length)) rb) w H H' β' T' (treeOf 1000 (c.post x id) .nil) w' ∧ (∀ i k, β i = some k → β' i = some k) ∧
      (∀ i k, β i = none → β' i = some k → w.heap.size ≤ k) ∧ (∀ i, 1000 ≤ i → i < 1000 + (c.pre x).length → β i = none → β' i = none) ∧ G H' β' T' (c.res x id) v' := by
    intro hp
    obtain ⟨H', βf, T, hf', hw'⟩ := hr'
    obtain ⟨l, v, h1, h3, h4⟩ := results_G hE hf' hw' fn _ hp
    obtain ⟨tb, h1⟩ := ownTK_elim h1
    simp only [force_eq] at h1
    generalize hnw : madeP (dropN (c.pre x).length (c.post x id)) (boxesOf (res1 l) []) = nw at h1
    generalize lookO id tb = ow at h1
    obtain ⟨h1, h2⟩ := h1
    obtain ⟨p1, p2, p3, p4⟩ := postL_spec h2
    have hlt : ∀ b, nw = some b → b < 1000 ∧ (c.post x id).length = (c.pre x).length + 1 := fun b e => by
      obtain ⟨a1, a2⟩ := madeP_spec (hnw.trans e)
      exact ⟨a1, by omega⟩
    clear hnw
    generalize hn : (c.pre x).length = n at *
    have hpre1 : ∀ i, (treeOf 1000 (c.pre x) .nil).get i none = if 1000 ≤ i ∧ i < 1000 + n then at' ((c.pre x).map some) (i - 1000) none else none := fun i => by
      rw [treeOf_get _ _ _ _ (by omega), hn]; rfl
    have hpost1 : ∀ i p, (treeOf 1000 (c.post x id) .nil).get i none = some p → 1000 ≤ i ∧ (c.post x id)[i - 1000]? = some p := by
      intro i p e
      rw [treeOf_get _ _ _ _ (by omega)] at e
      by_cases cc : 1000 ≤ i ∧ i < 1000 + (c.post x id).length
      · rw [if_pos cc] at e
        have hq : i - 1000 < (c.post x id).length := by omega
        rw [at'_get _ _ _ (by simpa using hq), List.getElem_map] at e
        exact ⟨cc.1, by rw [List.getElem?_eq_getElem hq]; exact e⟩
      · rw [if_neg cc] at e; cases e
    have hpost2 : ∀ i p, 1000 ≤ i → (c.post x id)[i - 1000]? = some p → (treeOf 1000 (c.post x id) .nil).get i none = some p := by
      intro i p hi e
      have hq := (List.getElem?_eq_some_iff.1 e).1
      rw [treeOf_get _ _ _ _ (by omega), if_pos (by omega), at'_get _ _ _ (by simpa using hq), List.getElem_map]
      rw [List.getElem?_eq_getElem hq] at e
      exact e
    -- the variables handed in
    have hβ0 : ∀ i k, β i = some k → 1000 ≤ i ∧ i < 1000 + n := by
      intro i k e
      obtain ⟨-, cs, e2⟩ := hW.bβ i k e
      rw [hpre1] at e2
      by_cases cc : 1000 ≤ i ∧ i < 1000 + n
      · exact cc
      · rw [if_neg cc] at e2; cases e2
    have hβ1 : ∀ i k, 1000 ≤ i → i < 1000 + n → βf i = some k → β i = some k := by
      intro i k h1 h2 e
      cases hb : β i with
      | none => rw [hw'.out i h1 (by rw [mB_lo (by omega)]; exact hb)] at e; cases e
      | some k0 => rw [(hw'.hand i k0 (by rw [mB_lo (by omega)]; exact hb)).2 k e]
    let β' : BM := fun i => if 1000 ≤ i ∧ i < 1000 + n then β i else if i = 1000 + n ∧ (c.post x id).length = n + 1 then (nw.bind βf) else none
    have hβ' : ∀ i k, β' i = some k → (1000 ≤ i ∧ i < 1000 + n ∧ β i = some k) ∨ (i = 1000 + n ∧ (c.post x id).length = n + 1 ∧ ∃ b, nw = some b ∧ βf b = some k) := by
      intro i k e
      by_cases c1 : 1000 ≤ i ∧ i < 1000 + n
      · have e2 : β' i = β i := if_pos c1
        exact .inl ⟨c1.1, c1.2, by rw [← e2]; exact e⟩
      · have e2 : β' i = if i = 1000 + n ∧ (c.post x id).length = n + 1 then (nw.bind βf) else none := by show (if _ then _ else _) = _; rw [if_neg c1]
        rw [e2] at e
        by_cases c2 : i = 1000 + n ∧ (c.post x id).length = n + 1
        · rw [if_pos c2] at e
          cases hnw : nw with
          | none => rw [hnw] at e; cases e
          | some b => rw [hnw] at e; exact .inr ⟨c2.1, c2.2, b, rfl, e⟩
        · rw [if_neg c2] at e; cases e
    have hβ'1 : ∀ i, 1000 ≤ i → i < 1000 + n → β' i = β i := fun i a1 a2 => if_pos ⟨a1, a2⟩
    have hβ'2 : ∀ b, nw = some b → (c.post x id).length = n + 1 → β' (1000 + n) = βf b := by
      intro b e e2
      have c1 : ¬ (1000 ≤ 1000 + n ∧ 1000 + n < 1000 + n) := by omega
      have : β' (1000 + n) = if 1000 + n = 1000 + n ∧ (c.post x id).length = n + 1 then (nw.bind βf) else none := by show (if _ then _ else _) = _; rw [if_neg c1]
      rw [this, if_pos ⟨rfl, e2⟩, e]; rfl
    have hnewf : ∀ b k, nw = some b → βf b = some k → w.heap.size ≤ k := fun b k e1 e2 => (hw'.mine _ _ e2).2 (hlt b e1).1
    have holdf : ∀ i k, β i = some k → k < w.heap.size := fun i k e => (hW.bβ i k e).1
    have hM : ∀ i k, newM β β' (1000 + n) i = some k → β' i = some k := by
      intro i k e
      unfold newM at e
      by_cases c : i < 1000 + n
      · rw [if_pos c] at e; rw [hβ'1 i (hβ0 i k e).1 c]; exact e
      · rw [if_neg c] at e; exact e
    have hM2 : ∀ i k, β' i = some k → newM β β' (1000 + n) i = some k := by
      intro i k e
      unfold newM
      by_cases c : i < 1000 + n
      · rw [if_pos c]
        rcases hβ' i k e with ⟨c1, c2, c3⟩ | ⟨rfl, _⟩
        · exact c3
        · omega
      · rw [if_neg c]; exact e
    have hM2m : ∀ i k, β' i = some k → mB (newM β β' (1000 + n)) rb i = some k := fun i k e => by
      rw [mB_lo (by rcases hβ' i k e with ⟨_, _, _⟩ | ⟨_, _⟩ <;> omega)]; exact hM2 i k e
    have hMm : ∀ i k, mB (newM β β' (1000 + n)) rb i = some k → β' i = some k ∨ (10000 ≤ i ∧ rb i = some k) := fun i k e => by
      rcases mB_some e with ⟨_, e⟩ | ⟨h, e⟩
      · exact .inl (hM i k e)
      · exact .inr ⟨h, e⟩
    have hroom : ∀ b, Room (mB β rb) w b → Room (mB (newM β β' (1000 + n)) rb) w b := fun b h => h.imp (fun ⟨i, h1, h2⟩ => ⟨i, h1, by rw [mB_hi h1] at h2 ⊢; exact h2⟩) (fun h => h)
    have hup : ∀ b b' k, outN nw (1000 + n) b = some b' → βf b = some k → β' b' = some k := by
      intro b b' k e1 e2
      rcases outN_spec e1 with ⟨c1, c2, rfl⟩ | ⟨c1, c2, rfl⟩
      · rw [hβ'1 b' c1 c2]; exact hβ1 b' k c1 c2 e2
      · rw [hβ'2 b c2 (hlt b c2).2]; exact e2
    have hT2 : ∀ i i', ow i = some i' → ∀ b q, T b q = some i → (fun b o => (T b o).bind ow : TM) b q = some i' := by
      intro i i' e b q e2
      show (T b q).bind _ = _
      rw [e2]; exact e
    refine ⟨hf'.defers, v, h4, v, H', β', (fun b o => (T b o).bind ow), rfl, ?_, ?_, ?_, ?_, (nmW_G (ow := ow) hup hT2 h3).sub h1⟩
    · refine ⟨?_, ?_, ?_, ?_, ?_, ?_, ?_, ?_, ?_, ?_, ⟨hw'.keep.os, hw'.keep.tape, hw'.keep.output, hw'.keep.size, fun k hk hno => hw'.keep.block k hk fun ⟨i, e⟩ => hno (by
      rcases mB_some e with ⟨_, e⟩ | ⟨h10, e⟩
      · exact ⟨i, hM2m i k (by rw [hβ'1 i (hβ0 i k e).1 (hβ0 i k e).2]; exact e)⟩
      · exact ⟨i, by rw [mB_hi h10]; exact e⟩), hw'.keep.shape⟩, hw'.ext, fun b o h => (hw'.fresh b o h).imp (fun ⟨i, h1, h2⟩ => ⟨i, h1, by rw [mB_hi h1] at h2 ⊢; exact h2⟩) (fun h => h), fun k e => ?_⟩
      · intro b o u e
        obtain ⟨a1, a2⟩ := hw'.lies b o u e
        exact ⟨a1, by show (T b o).bind ow = none; rw [a2]; rfl⟩
      · intro i p e hl
        obtain ⟨hi, e2⟩ := hpost1 i p e
        have hil := (List.getElem?_eq_some_iff.1 e2).1
        have key : ∀ (b : Nat) (cs : List SV) (k : Nat), s'.bx.get b none = some cs → subC (nmW.nmsW (outN nw (1000 + n)) ow cs) p → (∀ k, βf b = some k → β' i = some k) →
            ∃ k, β' i = some k ∧ Mine (mB (newM β β' (1000 + n)) rb) w k ∧ ∀ j, j < xlen p → H' k j = none ∧ (fun b o => (T b o).bind ow : TM) k j = none ∧ w'.frozen? ⟨k, j, none⟩ = false ∧ ∃ v, w'.cell? ⟨k, j, none⟩ = some v ∧ G H' β' (fun b o => (T b o).bind ow) (xat p j) v := by
          intro b cs _ b1 b2 b3
          obtain ⟨c1, c2, -⟩ := subC_spec b2
          rw [xlen_nm] at c1
          obtain ⟨k, a1, a2, a3⟩ := hw'.box b cs b1 (by omega)
          refine ⟨k, b3 k a1, .inl ⟨i, hM2m _ _ (b3 k a1)⟩, fun j hj => ?_⟩
          obtain ⟨d1, d2, d3, u, d4, d5⟩ := a3 j (by omega)
          refine ⟨d1, by show (T k j).bind ow = none; rw [d2]; rfl, d3, u, d4, ?_⟩
          exact c2 j hj (xat_nm (ow := ow) hup hT2 (fun X sz c d l ee => hw'.many _ _ _ _ _ _ (by rw [b1, ee])) (by omega) d5)
        by_cases hlast : i < 1000 + n
        · obtain ⟨cs, b1, b2⟩ := p3 (i - 1000) p (by omega) e2
          rw [show 1000 + (i - 1000) = i by omega] at b1
          exact key i cs 0 b1 b2 fun k hk => by rw [hβ'1 i hi hlast]; exact hβ1 i k hi hlast hk
        · have hlen1 : (c.post x id).length = n + 1 := by omega
          obtain ⟨b, cs, p', b0, b1, b2, b3⟩ := p4 hlen1
          obtain rfl : i = 1000 + n := by omega
          rw [show 1000 + n - 1000 = n by omega, b2] at e2
          cases e2
          exact key b cs 0 b1 b3 fun k hk => by rw [hβ'2 b b0 hlen1]; exact hk
      · intro i k e
        rcases hβ' i k e with ⟨c1, c2, c3⟩ | ⟨rfl, c2, b, c3, c4⟩
        · refine ⟨Nat.lt_of_lt_of_le (holdf _ _ c3) hw'.keep.size, (c.post x id)[i - 1000]'(by omega), hpost2 i _ c1 (List.getElem?_eq_getElem (by omega))⟩
        · refine ⟨(hw'.bβ _ _ c4).1, (c.post x id)[n]'(by omega), hpost2 _ _ (by omega) ?_⟩
          rw [show 1000 + n - 1000 = n by omega]
          exact List.getElem?_eq_getElem (by omega)
      · intro i j k e1 e2
        rcases hβ' i k e1 with ⟨c1, c2, c3⟩ | ⟨rfl, c2, b, c3, c4⟩ <;> rcases hβ' j k e2 with ⟨d1, d2, d3⟩ | ⟨rfl, d2, b', d3, d4⟩
        · exact hW.inj _ _ _ c3 d3
        · have := hnewf _ _ d3 d4; have := holdf _ _ c3; omega
        · have := hnewf _ _ c3 c4; have := holdf _ _ d3; omega
        · rfl
      · intro b o i e
        replace e : (T b o).bind ow = some i := e
        cases ht : T b o with
        | none => rw [ht] at e; cases e
        | some i' => exact ⟨hroom b (hw'.tail b o i' ht).1, (hw'.tail b o i' ht).2⟩
      · intro b o i e j c
        replace e : (T b o).bind ow = some i := e
        cases ht : T b o with
        | none => rw [ht] at e; cases e
        | some i' =>
          rcases hβ' j b c with ⟨_, _, c3⟩ | ⟨_, _, b', _, c4⟩
          · rcases (hw'.tail b o i' ht).1 with ⟨q, h1, h2⟩ | h2
            · rw [mB_hi h1] at h2; exact hsep _ _ _ c3 h2
            · have := holdf _ _ c3; omega
          · exact hw'.sep _ _ _ ht _ c4
      · intro i k e
        rcases hMm i k e with e' | ⟨h10, e'⟩
        case inr => exact ⟨by omega, fun k' e2 => by rcases hβ' i k' e2 with ⟨_, _, _⟩ | ⟨_, _⟩ <;> omega⟩
        refine ⟨?_, fun k' e2 => by rw [e'] at e2; cases e2; rfl⟩
        rcases hβ' i k e' with ⟨c1, _⟩ | ⟨rfl, _⟩ <;> omega
      · intro i X sz cc dd l e
        obtain ⟨hi, e2⟩ := hpost1 i _ e
        have hil := (List.getElem?_eq_some_iff.1 e2).1
        by_cases hlast : i < 1000 + n
        · obtain ⟨cs, b1, b2⟩ := p3 (i - 1000) _ (by omega) e2
          exact hw'.many _ _ _ _ _ _ (by rw [b1, many_nm ((subC_spec b2).2.2 _ _ _ _ _ rfl)])
        · have hlen1 : (c.post x id).length = n + 1 := by omega
          obtain ⟨b, cs, p', b0, b1, b2, b3⟩ := p4 hlen1
          obtain rfl : i = 1000 + n := by omega
          rw [show 1000 + n - 1000 = n by omega, b2] at e2
          cases e2
          exact hw'.many _ _ _ _ _ _ (by rw [b1, many_nm ((subC_spec b3).2.2 _ _ _ _ _ rfl)])
      · intro i k e
        refine ⟨.inl ⟨i, hM2m _ _ e⟩, fun hi => ?_⟩
        rcases hβ' i k e with ⟨c1, _⟩ | ⟨rfl, _⟩ <;> omega
      · intro i h1 h2
        cases hb : β' i with
        | none => rfl
        | some k => rw [hM2m i k hb] at h2; cases h2
      · have e2 : ∃ i, β' i = some k := by obtain ⟨i, e | ⟨h10, e, _⟩⟩ := e; exact ⟨i, e⟩; exact (hMm i k e).elim (fun e => ⟨i, e⟩) (fun e => by omega)
        obtain ⟨i, e2⟩ := e2
        rcases hβ' i k e2 with ⟨c1, c2, c3⟩ | ⟨rfl, c2, b, c3, c4⟩
        · exact hw'.edge k ⟨i, .inr ⟨by omega, by rw [mB_lo (by omega)]; exact c3, holdf _ _ c3, fun j hj c => hsep _ _ _ c3 ((mB_hi (β := β) (rb := rb) hj) ▸ c)⟩⟩
        · exact hw'.edge k ⟨b, .inl c4⟩
    · intro i k e
      obtain ⟨a1, a2⟩ := hβ0 i k e
      rw [hβ'1 i a1 a2]; exact e
    · intro i k e1 e2
      rcases hβ' i k e2 with ⟨c1, c2, c3⟩ | ⟨rfl, c2, b, c3, c4⟩
      · rw [e1] at c3; cases c3
      · exact hnewf b k c3 c4
    · intro i h1 h2 e
      rw [hβ'1 i h1 h2]; exact e
  cases e with
  | normal => exact main hp
  | exit n => exact hp.elim
  | ret => exact main hp
/-- A contract that says no more than another one. -/
theorem CtrSound.weaken {g : Nat} {c c' : Ctr} (h : CtrSound P g c) (f : c'.A → c.A) (he : ∀ x, c'.dom x → c'.enc x = c.enc (f x)) (hd : ∀ x, c'.dom x → c.dom (f x)) (hr : ∀ x id, c'.dom x → Sub (c.res (f x) id) (c'.res x id))
    (hgl : ∀ w, c'.gl w → c.gl w := by intro _ h; exact h) (hfr : c'.fresh = true → c.fresh = true := by intro h; exact h) : CtrSound P g c' := by
  refine ⟨h.1, fun x H w vs id hdx hs hgw hn hg => ?_⟩
  rw [he x hdx] at hn hg
  refine (h.2 (f x) H w vs id (hd x hdx) hs (fun w' hs' hsh => hgl w' (hgw w' hs' hsh)) hn hg).mono ?_
  rintro e w' ⟨v, H', T', h1, h2, h3, h4, h5, h6, h7, h8⟩
  exact ⟨v, H', T', h1, h2, h3, h4, h5, h6, h7.sub (hr x id hdx), fun c => (h8 (hfr c)).sub (hr x id hdx)⟩
end
end Go.Proofs.YtimhbimpaiiceaaDoor.Ax
