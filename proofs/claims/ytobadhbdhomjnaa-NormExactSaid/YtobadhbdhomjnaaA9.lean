/- Code, and functions: what the logic shows of a body is the function's contract. -/
import Derived.Test.YtobadhbdhomjnaaA8
set_option linter.unusedVariables false
set_option linter.unusedSimpArgs false
namespace Go.Proofs.Ytobadhbdhomjnaa.Ax
open Go Go.RowKit

/-! ### 1. Knowing less -/
def restr (β : BM) (bx : Tr (Option (List SV))) : BM := fun b => match bx.get b none with
  | some _ => β b
  | none => none
theorem restr_le (β : BM) (bx : Tr (Option (List SV))) : BLe (restr β bx) β := fun b k h => by
  unfold restr at h
  split at h
  · exact h
  · cases h
theorem refOks_at {bx : Tr (Option (List SV))} {l : List SV} (h : refOk.refOks bx l = true) : ∀ j, j < l.length → refOk bx (at' l j .junk) = true := by
  induction l with
  | nil => intro j hj; simp at hj
  | cons x xs ih =>
    intro j hj
    unfold refOk.refOks at h
    cases hx : refOk bx x with
    | false => rw [hx] at h; simp at h
    | true =>
      rw [hx] at h
      cases j with
      | zero => exact hx
      | succ j => exact ih h j (by simpa using hj)
theorem refOkT_at {bx : Tr (Option (List SV))} : ∀ {t : Tr SV}, refOkT bx t = true → ∀ j, refOk bx (t.get j .junk) = true
  | .nil, _, _ => rfl
  | .node v l r, h, j => by
    unfold refOkT at h
    cases hv : refOk bx v with
    | false => rw [hv] at h; simp at h
    | true =>
      rw [hv] at h
      simp only at h
      cases hl : refOkT bx l with
      | false => rw [hl] at h; simp at h
      | true =>
        rw [hl] at h
        cases j with
        | zero => exact hv
        | succ j =>
          simp only [Tr.get]
          rcases Tr.half j with ⟨e, -⟩ | ⟨e, -⟩ <;> rw [e]
          · exact refOkT_at hl _
          · exact refOkT_at h _
theorem refOkB_at {bx : Tr (Option (List SV))} : ∀ {t : Tr (Option (List SV))}, refOkB bx t = true → ∀ id cs, t.get id none = some cs → refOk.refOks bx cs = true
  | .nil, _, _, _, e => by cases e
  | .node v l r, h, id, cs, e => by
    have parts : (∀ cs, v = some cs → refOk.refOks bx cs = true) ∧ refOkB bx l = true ∧ refOkB bx r = true := by
      unfold refOkB at h
      cases v with
      | none =>
        simp only at h
        cases hl : refOkB bx l with
        | false => rw [hl] at h; simp at h
        | true => rw [hl] at h; exact ⟨fun _ e => (by cases e), rfl, h⟩
      | some c =>
        simp only at h
        cases hx : refOk.refOks bx c with
        | false => rw [hx] at h; simp at h
        | true =>
          rw [hx] at h
          simp only at h
          cases hl : refOkB bx l with
          | false => rw [hl] at h; simp at h
          | true => rw [hl] at h; exact ⟨fun _ e => (by cases e; exact hx), rfl, h⟩
    obtain ⟨h1, h2, h3⟩ := parts
    cases id with
    | zero =>
      simp only [Tr.get] at e
      exact h1 _ e
    | succ j =>
      simp only [Tr.get] at e
      rcases Tr.half j with ⟨e', -⟩ | ⟨e', -⟩ <;> rw [e'] at e
      · exact refOkB_at h2 _ _ e
      · exact refOkB_at h3 _ _ e
theorem G.forget {H : HM} {β : BM} {T : TM} {s : SV} {v : Value} (h : G H β T s v) (bx : Tr (Option (List SV))) : refOk bx s = true → G H (restr β bx) T s v := by
  have box : ∀ b k, refOk bx (.box b 0) = true → β b = some k → restr β bx b = some k := by
    intro b k h1 h2
    unfold restr
    simp only [refOk] at h1
    cases e : bx.get b none with
    | none => rw [e] at h1; simp at h1
    | some _ => exact h2
  induction h with
  | val v => intros; exact .val v
  | tt => intros; exact .tt
  | ff => intros; exact .ff
  | junk v => intros; exact .junk v
  | nb Q b h => intros; exact .nb Q b h
  | rowE => intros; exact .rowE ..
  | row X sz cs d l b off c vs hc hz hh hg ih => intros; exact .row X sz cs d l b off c vs hc hz hh hg
  | ownE => intros; exact .ownE ..
  | own X sz cs d l id b off c vs hc hz hh hg hT ih => intros; exact .own X sz cs d l id b off c vs hc hz hh hg hT
  | elt X sz cs d l i o b p vs hz hh hg ih => intros; exact .elt X sz cs d l i o b p vs hz hh hg
  | box b o k h => intro hi; exact .box b o k (box b k hi h)
  | arr b z n k h => intro hi; exact .arr b z n k (box b k hi h)
  | agg l vs hn h ih => intro hi; exact .agg l vs hn fun j e => ih j e box (refOks_at (by simpa [refOk] using hi) j e)
  | tup l vs hn h ih => intro hi; exact .tup l vs hn fun j e => ih j e box (refOks_at (by simpa [refOk] using hi) j e)
  | fn g l vs hn h ih => intro hi; exact .fn g l vs hn fun j e => ih j e box (refOks_at (by simpa [refOk] using hi) j e)

theorem WeakL_at : ∀ {a b : List SV}, WeakL a b → a.length = b.length ∧ ∀ j, j < b.length → Sub (at' a j .junk) (at' b j .junk)
  | [], [], _ => ⟨rfl, fun j hj => by simp at hj⟩
  | x :: xs, y :: ys, h => by
    have two : Sub x y ∧ WeakL xs ys := by
      unfold WeakL at h
      cases y with
      | junk => exact ⟨.junk _, h⟩
      | _ => exact h
    obtain ⟨hl, hs⟩ := WeakL_at two.2
    refine ⟨by simp [hl], fun j hj => ?_⟩
    cases j with
    | zero => exact two.1
    | succ j => exact hs j (by simpa using hj)
  | [], _ :: _, h => h.elim
  | _ :: _, [], h => h.elim
theorem weakT_at : ∀ {a b : Tr SV} {k : Prop}, weakT a b k → k ∧ (∀ j, a.has j = b.has j) ∧ ∀ j, Sub (a.get j .junk) (b.get j .junk)
  | .nil, .nil, k, h => ⟨h, fun _ => rfl, fun _ => .refl _⟩
  | .node v l r, .node v' l' r', k, h => by
    have two : Sub v v' ∧ weakT l l' (weakT r r' k) := by
      unfold weakT at h
      cases v' with
      | junk => exact ⟨.junk _, h⟩
      | _ => exact h
    obtain ⟨h1, h2, h3⟩ := weakT_at two.2
    obtain ⟨h4, h5, h6⟩ := weakT_at h1
    refine ⟨h4, fun j => ?_, fun j => ?_⟩
    · cases j with
      | zero => rfl
      | succ j =>
        simp only [Tr.has]
        rcases Tr.half j with ⟨e, -⟩ | ⟨e, -⟩ <;> rw [e]
        · exact h2 _
        · exact h5 _
    · cases j with
      | zero => exact two.1
      | succ j =>
        simp only [Tr.get]
        rcases Tr.half j with ⟨e, -⟩ | ⟨e, -⟩ <;> rw [e]
        · exact h3 _
        · exact h6 _
  | .nil, .node _ _ _, _, h => h.elim
  | .node _ _ _, .nil, _, h => h.elim
theorem weakB_at : ∀ {a b : Tr (Option (List SV))} {k : Prop}, weakB a b k → k ∧ ∀ id ct, b.get id none = some ct → ∃ cs, a.get id none = some cs ∧ WeakL cs ct
  | .nil, .nil, k, h => ⟨h, fun _ _ e => (by cases e)⟩
  | .node v l r, .node v' l' r', k, h => by
    have two : (∀ ct, v' = some ct → ∃ cs, v = some cs ∧ WeakL cs ct) ∧ weakB l l' (weakB r r' k) := by
      unfold weakB at h
      cases v' with
      | none => exact ⟨fun _ e => (by cases e), h⟩
      | some ct =>
        cases v with
        | none => exact h.elim
        | some cs => exact ⟨fun _ e => (by cases e; exact ⟨cs, rfl, h.1⟩), h.2⟩
    obtain ⟨h1, h2⟩ := weakB_at two.2
    obtain ⟨h3, h4⟩ := weakB_at h1
    refine ⟨h3, fun id ct e => ?_⟩
    cases id with
    | zero => exact two.1 ct e
    | succ j =>
      simp only [Tr.get] at e ⊢
      rcases Tr.half j with ⟨e', -⟩ | ⟨e', -⟩ <;> rw [e'] at e ⊢
      · exact h2 _ _ e
      · exact h4 _ _ e
  | .nil, .node _ _ _, _, h => h.elim
  | .node _ _ _, .nil, _, h => h.elim

section
variable {P : Program} {E : Env} {M : Nat → Prop} {w0 : World} {H0 : HM}
theorem Weak.rel {s t : ASt} {a : Act} {w : World} (h : Weak s t) (hr : Rel M w0 H0 s a w) : Rel M w0 H0 t a w := by
  obtain ⟨H, β, T, hf, hw⟩ := hr
  obtain ⟨⟨h1, h2⟩, h3⟩ := h
  obtain ⟨h3, hl, hs⟩ := weakT_at h3
  obtain ⟨-, h4⟩ := weakB_at h3
  refine ⟨H, restr β t.bx, T, ⟨fun j hj => hf.size j (by rw [hl]; exact hj), hf.defers, fun j => ?_⟩, ?_⟩
  · exact ((hf.val j).sub (hs j)).forget t.bx (refOkT_at h1 j)
  · refine ⟨hw.lies, ?_, ?_, ?_, hw.tail, hw.keep, hw.ext, hw.fresh⟩
    · intro id ct e
      obtain ⟨cs, hcs, hwk⟩ := h4 id ct e
      obtain ⟨k, hk, hm, hj⟩ := hw.box id cs hcs
      obtain ⟨hl2, hs2⟩ := WeakL_at hwk
      refine ⟨k, by unfold restr; rw [e]; exact hk, hm, fun j hjl => ?_⟩
      obtain ⟨a1, a2, a3, v, a4, a5⟩ := hj j (by omega)
      exact ⟨a1, a2, a3, v, a4, (a5.sub (hs2 j hjl)).forget t.bx (refOks_at (refOkB_at h2 id ct e) j hjl)⟩
    · intro id k e
      have e' := restr_le _ _ _ _ e
      refine ⟨(hw.bβ id k e').1, ?_⟩
      unfold restr at e
      cases ht : t.bx.get id none with
      | none => rw [ht] at e; cases e
      | some ct => exact ⟨ct, rfl⟩
    · intro i j k ei ej
      exact hw.inj i j k (restr_le _ _ _ _ ei) (restr_le _ _ _ _ ej)

/-! ### 2. Code -/
def exOf : Ex → Exit
  | .normal => .normal
  | .exit n => .exit n
  | .ret => .ret
theorem blankK_eq : ∀ (t : Tr SV) (k : Tr SV → Prop), blankK t k = k (blank t)
  | .nil, _ => rfl
  | .node v l r, k => by simp only [blankK, blank, blankK_eq l, blankK_eq r]
theorem blankBK_eq : ∀ (t : Tr (Option (List SV))) (k : Tr (Option (List SV)) → Prop), blankBK t k = k (blankB t)
  | .nil, _ => rfl
  | .node v l r, k => by simp only [blankBK, blankB, blankBK_eq l, blankBK_eq r]
theorem putsK_eq : ∀ (f : List (Nat × SV)) (t : Tr SV) (k : Tr SV → Prop), putsK f t k = k (puts f t)
  | [], _, _ => rfl
  | (i, v) :: r, t, k => by simp only [putsK, puts, force_eq, Tr.putK_eq, putsK_eq r]
theorem putsBK_eq : ∀ (f : List (Nat × List SV)) (t : Tr (Option (List SV))) (k : Tr (Option (List SV)) → Prop), putsBK f t k = k (putsB f t)
  | [], _, _ => rfl
  | (i, v) :: r, t, k => by simp only [putsBK, putsB, forceL_eq, Tr.putK_eq, putsBK_eq r]
theorem stK_eq (s : ASt) (f : List (Nat × SV)) (b : List (Nat × List SV)) (k : ASt → Prop) : stK s f b k = k (stOf s f b) := by
  simp only [stK, stOf, blankK_eq, putsK_eq, blankBK_eq, putsBK_eq]
theorem ax_sound (hE : EnvOk P E) (hm : P.follows .mixedOrders = true) : ∀ (c : Code) {Q : Exit → Act → World → Prop} {s : ASt} {K : Ex → ASt → Prop} {a : Act} {w : World},
    ax E c s K → Rel M w0 H0 s a w → (∀ e s' a' w', K e s' → Rel M w0 H0 s' a' w' → Q (exOf e) a' w') → c.wp P Q a w := by
  intro c
  induction c with
  | skip => intro Q s K a w h hr hq; exact wp_skip (hq .normal s a w h hr)
  | region id ops draw =>
    intro Q s K a w h hr hq
    cases draw with
    | false => exact region_sound hE id h hr fun s' a' w' hk hr' => hq .normal s' a' w' hk hr'
    | true => exact draw_sound hE hm id h.1 h.2 hr fun s' a' w' hk hr' => hq .normal s' a' w' hk hr'
  | seq x y ihx ihy =>
    intro Q s K a w h hr hq
    refine wp_seq (ihx h hr ?_)
    intro e s' a' w' hk hr'
    cases e with
    | normal => exact ihy hk hr' hq
    | exit n => exact hq (.exit n) s' a' w' hk hr'
    | ret => exact hq .ret s' a' w' hk hr'
  | cond c x y ihx ihy =>
    intro Q s K a w h hr hq
    have hr0 := hr
    obtain ⟨H, β, T, hf, hw⟩ := hr
    have hc := ev_G hf c
    simp only [ax] at h
    generalize hev : ev s c = p at h hc
    generalize hav : a.eval c = v at hc
    cases p with
    | tt => cases hc; exact wp_cond_true hav (ihx h hr0 hq)
    | ff => cases hc; exact wp_cond_false hav (ihy h hr0 hq)
    | val u =>
      obtain rfl := gval hc
      cases v with
      | bool t =>
        cases t with
        | true => exact wp_cond_true hav (ihx (h.1 rfl) hr0 hq)
        | false => exact wp_cond_false hav (ihy (h.2 rfl) hr0 hq)
      | _ => exact h.elim
    | nb Q0 =>
      cases hc with
      | nb _ b hb =>
        cases b with
        | true => exact wp_cond_true hav (ihx (h.1 hb) hr0 hq)
        | false => exact wp_cond_false hav (ihy (h.2 hb) hr0 hq)
    | _ => exact h.elim
  | block id x ih =>
    intro Q s K a w h hr hq
    refine wp_block (ih h hr ?_)
    intro e s' a' w' hk hr'
    cases e with
    | normal => exact hq .normal s' a' w' hk hr'
    | exit n =>
      show (if n = id then Q .normal a' w' else Q (.exit n) a' w')
      cases hb : Nat.beq n id with
      | true =>
        simp only [hb] at hk
        rw [if_pos (Nat.eq_of_beq_eq_true hb)]
        exact hq .normal s' a' w' hk hr'
      | false =>
        simp only [hb] at hk
        rw [if_neg (fun c => by rw [c, Nat.beq_refl] at hb; cases hb)]
        exact hq (.exit n) s' a' w' hk hr'
    | ret => exact hq .ret s' a' w' hk hr'
  | loop x ih =>
    intro Q s K a w h hr hq
    simp only [ax, stK_eq] at h
    obtain ⟨A, fs, bs, inv, μ, ⟨x0, hi0, hw0⟩, hround⟩ := h
    let tm : A → ASt := fun x => stOf s (fs x) (bs x)
    replace hw0 : Weak s (tm x0) := hw0
    refine wp_loop_ghost (fun n a w => ∃ z, inv z ∧ μ z = n ∧ Rel M w0 H0 (tm z) a w) (μ x0) ⟨x0, hi0, rfl, hw0.rel hr⟩ ?_
    rintro n a1 w1 ⟨z, hz, rfl, hrz⟩
    refine ih (hround z hz) hrz ?_
    intro e s' a' w' hk hr'
    cases e with
    | normal =>
      obtain ⟨y, hy, hlt, hwk⟩ := hk
      exact ⟨μ y, hlt, y, hy, rfl, hwk.rel hr'⟩
    | exit n => exact hq (.exit n) s' a' w' hk hr'
    | ret => exact hq .ret s' a' w' hk hr'
  | exit n => intro Q s K a w h hr hq; exact wp_exit (hq (.exit n) s a w h hr)
  | ret => intro Q s K a w h hr hq; exact wp_ret (hq .ret s a w h hr)
  | _ => intro Q s K a w h hr hq; exact h.elim
end

/-! ### 3. Functions -/
/-- the results' values -/
def resK (E : Env) : List ResultVar → ASt → (List SV → Prop) → Prop
  | [], _, k => k []
  | r :: rs, s, k => match r with
    | .tmp t => force (s.fr.get t .junk) fun v => resK E rs s fun l => k (v :: l)
    | .cell p t => tiK E.ty t fun t => loadK t (s.fr.get p .junk) s.bx fun v => resK E rs s fun l => k (v :: l)
def res1 : List SV → SV
  | [x] => x
  | l => .tup l
/-- all rows that may grow bear one number -/
def ren (id : Nat) : SV → SV
  | .own T sz cs d l _ => .own T sz cs d l id
  | .agg l => .agg (rens id l)
  | .tup l => .tup (rens id l)
  | .fn g l => .fn g (rens id l)
  | x => x
where rens (id : Nat) : List SV → List SV
  | [] => []
  | x :: xs => ren id x :: rens id xs
theorem rens_length (id : Nat) : ∀ l : List SV, (ren.rens id l).length = l.length
  | [] => rfl
  | x :: xs => by simp [ren.rens, rens_length id xs]
theorem rens_at (id : Nat) : ∀ (l : List SV) (j : Nat), at' (ren.rens id l) j .junk = ren id (at' l j .junk)
  | [], _ => rfl
  | x :: xs, 0 => rfl
  | x :: xs, j + 1 => rens_at id xs j
theorem G.ren {H : HM} {β : BM} {T : TM} {s : SV} {v : Value} (h : G H β T s v) (id : Nat) : G H β (fun b o => (T b o).map fun _ => id) (Ax.ren id s) v := by
  induction h with
  | val v => exact .val v
  | tt => exact .tt
  | ff => exact .ff
  | junk v => exact .junk v
  | nb Q b h => exact .nb Q b h
  | rowE => exact .rowE ..
  | row X sz cs d l b off c vs hc hz hh hg ih => exact .row X sz cs d l b off c vs hc hz hh hg
  | ownE => exact .ownE ..
  | own X sz cs d l i b off c vs hc hz hh hg hT ih => exact .own X sz cs d l id b off c vs hc hz hh hg (fun o a e => by rw [hT o a e]; rfl)
  | elt X sz cs d l i o b p vs hz hh hg ih => exact .elt X sz cs d l i o b p vs hz hh hg
  | box b o k h => exact .box b o k h
  | arr b z n k h => exact .arr b z n k h
  | agg l vs hn h ih => exact .agg _ vs (by rw [rens_length]; exact hn) fun j e => by rw [rens_at]; exact ih j (by rw [rens_length] at e; exact e)
  | tup l vs hn h ih => exact .tup _ vs (by rw [rens_length]; exact hn) fun j e => by rw [rens_at]; exact ih j (by rw [rens_length] at e; exact e)
  | fn g l vs hn h ih => exact .fn g _ vs (by rw [rens_length]; exact hn) fun j e => by rw [rens_at]; exact ih j (by rw [rens_length] at e; exact e)

/-- where a body begins -/
def st0 (args : List SV) (n : Nat) : ASt := ⟨(Tr.mk (.val undef) n n).fill 0 args, Tr.mk none n n⟩
theorem mk_has {α : Type _} (v : α) : ∀ (f n j : Nat), n ≤ f → (Tr.mk v f n).has j = decide (j < n)
  | 0, n, j, h => by obtain rfl : n = 0 := by omega
                     simp [Tr.mk, Tr.has]
  | f + 1, 0, j, h => by simp [Tr.mk, Tr.has]
  | f + 1, n + 1, 0, h => by simp [Tr.mk, Tr.has]
  | f + 1, n + 1, j + 1, h => by
    simp only [Tr.mk, Tr.has]
    have h1 : Nat.div (n + 1) 2 = (n + 1) / 2 := rfl
    have h2 : Nat.div n 2 = n / 2 := rfl
    rcases Tr.half j with ⟨e, ej⟩ | ⟨e, ej⟩ <;> rw [e]
    · simp only
      rw [mk_has v f _ _ (by omega), decide_eq_decide]
      omega
    · simp only
      rw [mk_has v f _ _ (by omega), decide_eq_decide]
      omega
theorem mk_get {α : Type _} (v : α) : ∀ (f n j : Nat) (d : α), n ≤ f → (Tr.mk v f n).get j d = if j < n then v else d
  | 0, n, j, d, h => by obtain rfl : n = 0 := by omega
                        simp [Tr.mk, Tr.get]
  | f + 1, 0, j, d, h => by simp [Tr.mk, Tr.get]
  | f + 1, n + 1, 0, d, h => by simp [Tr.mk, Tr.get]
  | f + 1, n + 1, j + 1, d, h => by
    simp only [Tr.mk, Tr.get]
    have h1 : Nat.div (n + 1) 2 = (n + 1) / 2 := rfl
    have h2 : Nat.div n 2 = n / 2 := rfl
    rcases Tr.half j with ⟨e, ej⟩ | ⟨e, ej⟩ <;> rw [e] <;> simp only
    · rw [mk_get v f _ _ _ (by omega)]
      by_cases c : Nat.div j 2 < Nat.div (n + 1) 2
      · rw [if_pos c, if_pos (by omega)]
      · rw [if_neg c, if_neg (by omega)]
    · rw [mk_get v f _ _ _ (by omega)]
      by_cases c : Nat.div j 2 < Nat.div n 2
      · rw [if_pos c, if_pos (by omega)]
      · rw [if_neg c, if_neg (by omega)]
theorem fill_has {α : Type _} : ∀ (l : List α) (t : Tr α) (i j : Nat), (t.fill i l).has j = t.has j
  | [], _, _, _ => rfl
  | x :: xs, t, i, j => by
    show ((t.put i x).fill (i + 1) xs).has j = _
    rw [fill_has xs, Tr.has_put]
theorem fill_get {α : Type _} (d : α) : ∀ (l : List α) (t : Tr α) (i j : Nat), (∀ q, q < i + l.length → t.has q = true) → (t.fill i l).get j d = if i ≤ j ∧ j < i + l.length then at' l (j - i) d else t.get j d
  | [], t, i, j, h => by
    rw [if_neg (by simp)]
    rfl
  | x :: xs, t, i, j, h => by
    show ((t.put i x).fill (i + 1) xs).get j d = _
    rw [fill_get d xs _ _ _ (fun q hq => by rw [Tr.has_put]; exact h q (by simp; omega))]
    by_cases c : i + 1 ≤ j ∧ j < i + 1 + xs.length
    · rw [if_pos c, if_pos (by simp; omega)]
      obtain ⟨q, rfl⟩ : ∃ q, j = i + 1 + q := ⟨j - (i + 1), by omega⟩
      rw [show i + 1 + q - (i + 1) = q by omega, show i + 1 + q - i = q + 1 by omega]
      rfl
    · rw [if_neg c, Tr.get_put]
      by_cases e : i = j
      · subst e
        rw [if_pos ⟨rfl, h i (by simp)⟩, if_pos (by simp)]
        rw [Nat.sub_self]
        rfl
      · rw [if_neg (fun c => e c.1), if_neg (by simp; omega)]
/-- what a body must come to -/
def Post (E : Env) (rs : List ResultVar) (id : Nat) (r : SV) (e : Ex) (s : ASt) : Prop := match e with
  | .exit _ => False
  | _ => resK E rs s fun l => Sub (ren id (res1 l)) r ∧ refOk .nil r = true

section
variable {P : Program} {E : Env} {M : Nat → Prop} {w0 : World} {H0 : HM}
def resM (tmps : Array Value) : ResultVar → Sem Value
  | .tmp t => pure (tmps.getD t undef)
  | .cell p t => do loadVar t (← asAddr (tmps.getD p undef))
theorem results_run (hE : EnvOk P E) {s : ASt} {a : Act} {w : World} {H : HM} {β : BM} {T : TM} (hf : FR H β T s.fr a) (hw : W M w0 H0 H β T s.bx w) : ∀ (rs : List ResultVar) (k : List SV → Prop), resK E rs s k →
    ∃ (l : List SV) (vs : List Value), k l ∧ vs.length = l.length ∧ (∀ j, j < l.length → G H β T (at' l j .junk) (vs.getD j undef)) ∧
      (rs.mapM (resM a.tmps)).run P w = .ok vs w
  | [], k, h => ⟨[], [], h, rfl, fun j hj => by simp at hj, rfl⟩
  | r :: rs, k, h => by
    have fin : ∀ (v : SV) (val : Value), G H β T v val → (resM a.tmps r).run P w = .ok val w →
        resK E rs s (fun l => k (v :: l)) → ∃ (l : List SV) (vs : List Value), k l ∧ vs.length = l.length ∧ (∀ j, j < l.length → G H β T (at' l j .junk) (vs.getD j undef)) ∧
      ((r :: rs).mapM (resM a.tmps)).run P w = .ok vs w := by
      intro v val hg hrun hk
      obtain ⟨l, vs, h1, h2, h3, h4⟩ := results_run hE hf hw rs _ hk
      refine ⟨v :: l, val :: vs, h1, by simp [h2], fun j hj => ?_, ?_⟩
      · cases j with
        | zero => exact hg
        | succ j => exact h3 j (by simpa using hj)
      · rw [List.mapM_cons, Sem.run_bind]
        have : ∀ (X : Sem Value), X.run P w = .ok val w → ((X.run P w).andThen fun a_1 w' => (do let __do_lift ← (rs.mapM (resM a.tmps)); pure (a_1 :: __do_lift) : Sem (List Value)).run P w') = .ok (val :: vs) w := by
          intro X hX
          rw [hX, Result.andThen_ok, Sem.run_bind, h4]
          rfl
        exact this _ hrun
    cases r with
    | tmp t =>
      simp only [resK, force_eq] at h
      exact fin _ _ (ev_G hf (.tmp t)) rfl h
    | cell p t =>
      obtain ⟨ti, hti, h⟩ := tiK_elim h
      have hT := hE.ty _ _ hti
      have hx := ev_G hf (.tmp p)
      have h1 : ti.agg = false → 0 < ti.size := hT.one
      have run : ∀ (b q : Nat) (f : Nat → Value), a.tmps.getD p undef = .pointer (some ⟨b, q, none⟩) → (∀ j, j < ti.size → w.cell? ⟨b, q + j, none⟩ = some (f j)) →
          (do loadVar t (← asAddr (a.tmps.getD p undef)) : Sem Value).run P w = .ok (if ti.agg then .agg ((List.range ti.size).map f).toArray else f 0) w := by
        intro b q f hp hc
        rw [Sem.run_bind, hp]
        show (loadVar t ⟨b, q, none⟩).run P w = _
        exact run_loadVar hT b q f hc h1
      unfold loadK at h
      replace hx : G H β T (s.fr.get p .junk) (a.tmps.getD p undef) := hx
      generalize hev : s.fr.get p .junk = pv at h hx
      cases pv with
      | box b q =>
        simp only at h
        cases hb : s.bx.get b none with
        | none => rw [hb] at h; exact h.elim
        | some cs =>
          rw [hb] at h
          simp only at h
          cases hle : Nat.ble (q + ti.size) cs.length with
          | false => rw [hle] at h; exact h.elim
          | true =>
            rw [hle] at h
            simp only [wholeK_eq] at h
            have hle' := Nat.le_of_ble_eq_true hle
            generalize hav : a.tmps.getD p undef = val at hx
            cases hx with
            | box _ _ kk hβ =>
              obtain ⟨k2, hk2, -, hj⟩ := hw.box b cs hb
              obtain rfl : kk = k2 := Option.some.inj (hβ.symm.trans hk2)
              have hc : ∀ j, ∃ v, j < ti.size → w.cell? ⟨kk, q + j, none⟩ = some v ∧ G H β T (at' cs (q + j) .junk) v := fun j => by
                by_cases hlt : j < ti.size
                · obtain ⟨-, -, -, v, h4, h5⟩ := hj (q + j) (by omega)
                  exact ⟨v, fun _ => ⟨h4, h5⟩⟩
                · exact ⟨undef, fun c => absurd c hlt⟩
              refine fin _ _ (whole_G (takeDrop_length cs ti.size q hle') (f := fun j => Classical.choose (hc j)) (fun j hlt => ?_) ti.agg h1) (run kk q _ hav fun j hlt => (Classical.choose_spec (hc j) hlt).1) h
              rw [at'_takeDrop _ _ _ _ _ hlt]
              exact (Classical.choose_spec (hc j) hlt).2
      | elt X z cs d l i q =>
        simp only at h
        cases hle : Nat.ble (q + ti.size) z with
        | false => rw [hle] at h; exact h.elim
        | true =>
          rw [hle] at h
          simp only at h
          cases hfree : ownFree.ownFrees (takeN ti.size (dropN q (cs (l.getD i.toNat d)))) with
          | false => rw [hfree] at h; exact h.elim
          | true =>
          rw [hfree] at h
          simp only [wholeK_eq] at h
          have hle' := Nat.le_of_ble_eq_true hle
          generalize hav : a.tmps.getD p undef = val at hx
          cases hx with
          | elt _ _ _ _ _ _ _ b p' vs hz hH hG =>
            refine fin _ _ (whole_G (takeDrop_length _ ti.size q (by omega)) (f := fun j => vs (q + j)) (fun j hlt => ?_) ti.agg h1) (run b (p' + q) _ hav fun j hlt => ?_) h
            · rw [at'_takeDrop _ _ _ _ _ hlt]
              exact (hG (q + j) (by omega)).mono (.refl _) (noB_le _) (noT_le _)
            · rw [Nat.add_assoc]
              exact (hw.lies _ _ _ (hH (q + j) (by omega))).1
      | _ => exact h.elim

theorem results_G (hE : EnvOk P E) {s : ASt} {a : Act} {w : World} {H : HM} {β : BM} {T : TM} (hf : FR H β T s.fr a) (hw : W M w0 H0 H β T s.bx w) (fn : Func) (k : List SV → Prop) (h : resK E fn.results.toList s k) :
    ∃ (l : List SV) (v : Value), k l ∧ G H β T (res1 l) v ∧ (results fn a.tmps).run P w = .ok v w := by
  obtain ⟨l, vs, h1, h2, h3, h4⟩ := results_run hE hf hw fn.results.toList k h
  refine ⟨l, if h : vs.length = 1 then vs[0] else .tuple vs.toArray, h1, ?_, ?_⟩
  · by_cases hl : vs.length = 1
    · rw [dif_pos hl]
      match l, vs, h2, hl, h3 with
      | [x], [v], _, _, h3 => exact h3 0 (by simp)
      | [], [_], h2, _, _ => simp at h2
      | _ :: _ :: _, [_], h2, _, _ => simp at h2
    · rw [dif_neg hl]
      have hr : res1 l = .tup l := by
        match l, h2 with
        | [], _ => rfl
        | [_], h2 => exact absurd h2 hl
        | _ :: _ :: _, _ => rfl
      rw [hr]
      refine .tup l vs.toArray (by simpa using h2) fun j hj => ?_
      have := h3 j hj
      rw [← getD_toList]
      simpa using this
  · rw [show results fn a.tmps = (do let vs ← fn.results.mapM (resM a.tmps); pure (if h : vs.size = 1 then vs[0] else .tuple vs)) from rfl]
    rw [Array.mapM_eq_mapM_toList]
    rw [Sem.run_bind, Sem.run_map, h4]
    simp only [Result.andThen_ok, Sem.run_pure]
    congr 1

/-- A contract out of the body; the callees' contracts may be chosen case by case. -/
theorem ctr_of_ax2 (hm : P.follows .mixedOrders = true) {g : Nat} {fn : Func} {body : Code} (c : Ctr) (hf : P.funcs[g]? = some fn) (hname : (fn.name == "runtime.NumGoroutine") = false) (hb : fn.body = some body)
    (hlen : ∀ x, c.dom x → (c.enc x).length ≤ fn.ntmps) (h : ∀ (x : c.A) (id : Nat), c.dom x → ∃ E, EnvOk P E ∧ ax E body (st0 (c.enc x) fn.ntmps) (Post E fn.results.toList id (c.res x id))) : CtrSound P g c := by
  refine ⟨⟨fn, hf, hname, by rw [hb]; rfl⟩, ?_⟩
  intro x H w vs id hd hseal hsz hG
  obtain ⟨E, hE, hax⟩ := h x id hd
  have hlen := hlen x hd
  refine calls_of_wp hf hb ?_
  have hnone : ∀ id, (Tr.mk (none : Option (List SV)) fn.ntmps fn.ntmps).get id none = none := by
    intro id
    rw [mk_get _ _ _ _ _ (Nat.le_refl _)]
    split <;> rfl
  have hr : Rel (fun _ => False) w H (st0 (c.enc x) fn.ntmps) { tmps := vs ++ Array.replicate (fn.ntmps - vs.size) undef, defers := [] } w := by
    refine ⟨H, noB, noT, ⟨?_, rfl, ?_⟩, ⟨fun b o v e => ⟨hseal b o v e, rfl⟩, fun id cs e => (by rw [show (st0 (c.enc x) fn.ntmps).bx = Tr.mk none fn.ntmps fn.ntmps from rfl, hnone] at e; cases e), fun _ _ e => (by cases e), fun _ _ _ e => (by cases e), fun _ _ _ e => (by cases e), ⟨rfl, rfl, rfl, Nat.le_refl _, fun _ _ _ => rfl⟩, .refl _, fun _ _ _ => rfl⟩⟩
    · intro j hj
      simp only [st0, fill_has, mk_has _ _ _ _ (Nat.le_refl _), decide_eq_true_eq] at hj
      simp
      omega
    intro j
    show G H noB noT (((Tr.mk (.val undef) fn.ntmps fn.ntmps).fill 0 (c.enc x)).get j .junk) _
    rw [fill_get _ _ _ _ _ (fun q hq => by rw [mk_has _ _ _ _ (Nat.le_refl _)]; simp; omega)]
    by_cases hl : j < (c.enc x).length
    · rw [if_pos (by omega), Nat.sub_zero]
      have e2 : (vs ++ Array.replicate (fn.ntmps - vs.size) undef).getD j undef = vs.getD j undef := by
        simp [Array.getD_eq_getD_getElem?, Array.getElem?_append, show j < vs.size by omega]
      rw [e2]
      exact hG j hl
    · rw [if_neg (by omega), mk_get _ _ _ _ _ (Nat.le_refl _)]
      by_cases hn : j < fn.ntmps
      · rw [if_pos hn]
        have e2 : (vs ++ Array.replicate (fn.ntmps - vs.size) undef).getD j undef = undef := by
          have h2 : j - vs.size < fn.ntmps - vs.size := by omega
          simp [Array.getD_eq_getD_getElem?, Array.getElem?_append, show ¬ j < vs.size by omega, h2]
        rw [e2]
        exact .val _
      · rw [if_neg hn]; exact .junk _
  refine ax_sound hE hm body hax hr ?_
  intro e s' a' w' hp hr'
  have main : resK E fn.results.toList s' (fun l => Sub (ren id (res1 l)) (c.res x id) ∧ refOk .nil (c.res x id) = true) → a'.defers = [] ∧ ∃ v, (results fn a'.tmps).run P w' = .ok v w' ∧ ∃ v' H' T', Ending.returned v = .returned v' ∧ Below w.heap.size w w' ∧ HLe H H' ∧ (∀ b o, b < w.heap.size → H' b o = H b o) ∧
      (∀ b o i, T' b o = some i → w.heap.size ≤ b ∧ (w'.cell? ⟨b, o, none⟩).isSome = true ∧ w'.frozen? ⟨b, o, none⟩ = false) ∧
      (∀ b o v, H' b o = some v → w'.cell? ⟨b, o, none⟩ = some v ∧ T' b o = none) ∧ G H' noB T' (c.res x id) v' := by
    intro hp
    obtain ⟨H', β, T, hf', hw'⟩ := hr'
    obtain ⟨l, v, ⟨h1, h2⟩, h3, h4⟩ := results_G hE hf' hw' fn _ hp
    refine ⟨hf'.defers, v, h4, v, H', (fun b o => (T b o).map fun _ => id), rfl, ?_, hw'.ext, ?_, ?_, ?_, ?_⟩
    · exact ⟨hw'.keep.os, hw'.keep.tape, hw'.keep.output, hw'.keep.size, fun k hk => hw'.keep.block k hk (fun c => c)⟩
    · intro b o hlt
      exact hw'.fresh b o (fun c => by rcases c with c | c; exact c; omega)
    · intro b o i e
      replace e : (T b o).map (fun _ => id) = some i := e
      cases ht : T b o with
      | none => rw [ht] at e; cases e
      | some i' =>
        obtain ⟨a1, a2, a3⟩ := hw'.tail b o i' ht
        exact ⟨by rcases a1 with a1 | a1; exact a1.elim; exact a1, a2, a3⟩
    · intro b o v e
      obtain ⟨a1, a2⟩ := hw'.lies b o v e
      exact ⟨a1, by show (T b o).map (fun _ => id) = none; rw [a2]; rfl⟩
    · have := ((h3.ren id).sub h1).forget .nil h2
      refine this.mono (.refl _) ?_ (.refl _)
      intro b k e
      simp [restr, Tr.get] at e
  cases e with
  | normal => exact main hp
  | exit n => exact hp.elim
  | ret => exact main hp
theorem ctr_of_ax (hE : EnvOk P E) (hm : P.follows .mixedOrders = true) {g : Nat} {fn : Func} {body : Code} (c : Ctr) (hf : P.funcs[g]? = some fn) (hname : (fn.name == "runtime.NumGoroutine") = false) (hb : fn.body = some body) (hlen : ∀ x, c.dom x → (c.enc x).length ≤ fn.ntmps)
    (h : ∀ (x : c.A) (id : Nat), c.dom x → ax E body (st0 (c.enc x) fn.ntmps) (Post E fn.results.toList id (c.res x id))) : CtrSound P g c :=
  ctr_of_ax2 hm c hf hname hb hlen fun x id hd => ⟨E, hE, h x id hd⟩
/-- A contract that says no more than another one. -/
theorem CtrSound.weaken {g : Nat} {c c' : Ctr} (h : CtrSound P g c) (f : c'.A → c.A) (he : ∀ x, c'.dom x → c'.enc x = c.enc (f x)) (hd : ∀ x, c'.dom x → c.dom (f x)) (hr : ∀ x id, c'.dom x → Sub (c.res (f x) id) (c'.res x id)) : CtrSound P g c' := by
  refine ⟨h.1, fun x H w vs id hdx hs hn hg => ?_⟩
  rw [he x hdx] at hn hg
  refine (h.2 (f x) H w vs id (hd x hdx) hs hn hg).mono ?_
  rintro e w' ⟨v, H', T', h1, h2, h3, h4, h5, h6, h7⟩
  exact ⟨v, H', T', h1, h2, h3, h4, h5, h6, h7.sub (hr x id hdx)⟩
end
end Go.Proofs.Ytobadhbdhomjnaa.Ax
