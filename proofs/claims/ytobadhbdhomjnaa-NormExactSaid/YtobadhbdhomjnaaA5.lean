/- Operators, calls, and every operation together. -/
import Derived.Test.YtobadhbdhomjnaaA4
import Derived.Laws.Tables
import Derived.Great.BuildSlice
import Derived.Laws.Slices
import Derived.ArgAppend
import Derived.Laws.Small
set_option linter.unusedVariables false
set_option linter.unusedSimpArgs false
namespace Go.Proofs.Ytobadhbdhomjnaa.Ax
open Go Go.RowKit
section
variable {P : Program} {E : Env} {M : Nat → Prop} {w0 : World} {H0 : HM} {s : ASt} {a : Act} {w : World} {H : HM} {β : BM} {T : TM}
variable {k : SV → ASt → Prop} {next : Act → World → Prop} {Q : Exit → Act → World → Prop} {o : Oper}

theorem ikEq_eq {a b : IntKind} (h : ikEq a b = true) : a = b := by cases a <;> cases b <;> first | rfl | (simp [ikEq] at h; done)
theorem asB_elim {x : SV} {k : Bool → Prop} (h : asB x k) {H : HM} {β : BM} {T : TM} {v : Value} (hv : G H β T x v) : ∃ b, v = .bool b ∧ k b := by
  cases x with
  | tt => cases hv; exact ⟨true, rfl, h⟩
  | ff => cases hv; exact ⟨false, rfl, h⟩
  | val u => cases u <;> first | (cases hv; exact ⟨_, rfl, h⟩) | exact h.elim
  | _ => exact h.elim
theorem ofB_G (b : Bool) : G H β T (ofB b) (.bool b) := .val _

theorem gval {H : HM} {β : BM} {T : TM} {v u : Value} (h : G H β T (.val v) u) : u = v := by cases h; rfl

theorem nilBin_elim {E : Env} {t : Nat} {op : BinOp} {e : Bool} {y : SV} {k : SV → Prop} (h : nilBin E t op e y k) :
    ∃ ti, (t, ti) ∈ E.ty ∧ ti.slice = true ∧ y = .val (.slice none 0 0) ∧ ((op = .eql ∧ k (.nb fun b => e = false → b = false)) ∨ (op = .neq ∧ k (.nb fun b => e = false → b = true))) := by
  obtain ⟨ti, hti, h⟩ := tiK_elim h
  cases hs : ti.slice with
  | false => rw [hs] at h; exact h.elim
  | true =>
    rw [hs] at h
    refine ⟨ti, hti, hs, ?_⟩
    cases y with
    | val v =>
      cases v with
      | slice a n c =>
        cases a with
        | some _ => exact h.elim
        | none =>
          cases n with
          | succ _ => exact h.elim
          | zero =>
            cases c with
            | succ _ => exact h.elim
            | zero =>
              refine ⟨rfl, ?_⟩
              cases op with
              | eql => exact .inl ⟨rfl, h⟩
              | neq => exact .inr ⟨rfl, h⟩
              | _ => exact h.elim
      | _ => exact h.elim
    | _ => exact h.elim
theorem isE_false {α : Type _} {l : List α} (h : isE l = false) : 0 < l.length := by cases l with
  | nil => simp [isE] at h
  | cons _ _ => simp
theorem binOp_sound (hE : EnvOk P E) (hf : FR H β T s.fr a) (hw : W M w0 H0 H β T s.bx w) (hn : OnTo M w0 H0 a o.dst k next) (op : BinOp) (t u : TypeId) (x y : Operand) (ho : o.op = .binOp op t x y u)
    (hk : stepK E (dOf o.dst) (.binOp op t x y u) s k) : o.wp P a w next Q := by
  have hx := ev_G hf x
  have hy := ev_G hf y
  simp only [stepK, stepB] at hk
  generalize hex : ev s x = p at hk hx
  generalize hax : a.eval x = vx at hx
  generalize hay : a.eval y = vy at hy
  have run : ∀ val : Value, (eqGuard op t x y vx vy).run P w = .ok () w → (Go.binOp op t vx vy).run P w = .ok val w → (execOp a.eval o).run P w = .ok (.value val) w := by
    intro val h1 h2
    unfold execOp
    simp only [ho, hax, hay, Sem.run_bind, Sem.run_pure, h1, h2, Result.andThen_ok]
  have bools : ∀ b : Bool, vx = .bool b → bool2 E t op b (ev s y) (fun v => k v s) → o.wp P a w next Q := by
    intro b hb hk
    obtain ⟨ti, hti, hk⟩ := tiK_elim hk
    obtain ⟨d, hd, -, -, -, hbool, -⟩ := (hE.ty _ _ hti).und
    cases hbb : ti.bool with
    | false => rw [hbb] at hk; exact hk.elim
    | true =>
      rw [hbb] at hk
      obtain rfl := hbool hbb
      obtain ⟨c, rfl, hk⟩ := asB_elim hk hy
      subst hb
      have g : (eqGuard op t x y (.bool b) (.bool c)).run P w = .ok () w := by
        unfold eqGuard; split <;> rfl
      cases op with
      | eql => exact done_val hf hw hk (ofB_G _) hn (run _ g (run_eql_bool w t b c hd))
      | neq => exact done_val hf hw hk (ofB_G _) hn (run _ g (run_neq_bool w t b c hd))
      | _ => exact hk.elim
  have nils : ∀ (e : Bool) (ad : Option Addr) (n c : Nat), vx = .slice ad n c → (e = false → ad.isSome = true) → nilBin E t op e (ev s y) (fun v => k v s) → o.wp P a w next Q := by
    intro e ad n c hv hne hk
    obtain ⟨ti, hti, hs, hy0, hk⟩ := nilBin_elim hk
    obtain ⟨d, hd, -, hsl, -⟩ := (hE.ty _ _ hti).und
    obtain rfl := hsl hs
    rw [hy0] at hy
    obtain rfl := gval hy
    subst hv
    have g : (eqGuard op t x y (.slice ad n c) (.slice none 0 0)).run P w = .ok () w := by
      unfold eqGuard; split <;> rfl
    have he : (Op.equal t (.slice ad n c) (.slice none 0 0)).run P w = .ok (!ad.isSome) w := by
      unfold Op.equal
      show (Op.equalIn (9999 + 1) t (.slice ad n c) (.slice none 0 0)).run P w = _
      unfold Op.equalIn
      rw [Sem.run_bind, run_und hd]
      cases ad <;> rfl
    rcases hk with ⟨rfl, hk2⟩ | ⟨rfl, hk2⟩
    · refine done_val hf hw hk2 (.nb (fun b => e = false → b = false) (!ad.isSome) (fun e' => ?_)) hn (run _ g (by simp only [Go.binOp, Sem.run_bind, he, Result.andThen_ok, Sem.run_pure]))
      rw [hne e']; rfl
    · refine done_val hf hw hk2 (.nb (fun b => e = false → b = true) (!!ad.isSome) (fun e' => ?_)) hn (run _ g (by simp only [Go.binOp, Sem.run_bind, he, Result.andThen_ok, Sem.run_pure]))
      rw [hne e']; rfl
  unfold binK at hk
  cases p with
  | row X sz cs dd l =>
    cases hx with
    | rowE => exact nils true _ _ _ rfl (fun c => by cases c) hk
    | row _ _ _ _ _ b off c vs hc hz hh hg => exact nils _ _ _ _ rfl (fun _ => rfl) hk
  | own X sz cs dd l id =>
    cases hx with
    | ownE => exact nils true _ _ _ rfl (fun c => by cases c) hk
    | own _ _ _ _ _ _ b off c vs hc hz hh hg hT => exact nils _ _ _ _ rfl (fun _ => rfl) hk
  | tt => cases hx; exact bools true rfl hk
  | ff => cases hx; exact bools false rfl hk
  | agg l =>
    simp only at hk
    generalize hey : ev s y = q at hk hy
    cases q with
    | agg r =>
      simp only at hk
      cases hc : E.eqs t with
      | none => rw [hc] at hk; exact hk.elim
      | some c =>
        rw [hc] at hk
        obtain ⟨u1, v1, h1, h2, hk⟩ := hk
        obtain ⟨l1, s1⟩ := SubL_at h1
        obtain ⟨l2, s2⟩ := SubL_at h2
        cases hx with
        | agg _ xs hxn hxg =>
          cases hy with
          | agg _ ys hyn hyg =>
            obtain ⟨g, e⟩ := hE.eqs t c hc u1 v1 H β T xs ys w x y (by omega) (by omega) (fun j hj => (hxg j (by omega)).sub (s1 j hj)) (fun j hj => (hyg j (by omega)).sub (s2 j hj))
            cases op with
            | eql => exact done_val hf hw hk (ofB_G _) hn (run _ (g _) (by simp only [Go.binOp, Sem.run_bind, e, Result.andThen_ok, Sem.run_pure]))
            | neq => exact done_val hf hw hk (ofB_G _) hn (run _ (g _) (by simp only [Go.binOp, Sem.run_bind, e, Result.andThen_ok, Sem.run_pure]))
            | _ => exact hk.elim
    | _ => exact hk.elim
  | val v =>
    obtain rfl := gval hx
    cases vx with
    | bool b => exact bools b rfl hk
    | int kk n =>
      simp only at hk
      generalize hey : ev s y = q at hk hy
      cases q with
      | val v =>
        obtain rfl := gval hy
        cases vy with
        | int kk' m =>
          simp only at hk
          cases hik : ikEq kk kk' with
          | false => rw [hik] at hk; exact hk.elim
          | true =>
            obtain rfl := ikEq_eq hik
            rw [hik] at hk
            simp only at hk
            have g : (eqGuard op t x y (.int kk n) (.int kk m)).run P w = .ok () w := by
              unfold eqGuard; split <;> rfl
            cases op <;> simp only [intBin] at hk <;> first
              | exact hk.elim
              | (obtain ⟨h0, hk⟩ := hk; exact done_val hf hw hk (.val _) hn (run _ g (by simp [Go.binOp, Op.intDiv, h0])))
              | exact done_val hf hw hk (.val _) hn (run _ g (by simp [Go.binOp, Op.intArith, Op.intCmp, ofB]))
        | _ => exact hk.elim
      | _ => exact hk.elim
    | string n =>
      simp only at hk
      generalize hey : ev s y = q at hk hy
      cases q with
      | val v =>
        obtain rfl := gval hy
        cases vy with
        | string m =>
          simp only at hk
          have g : (eqGuard op t x y (.string n) (.string m)).run P w = .ok () w := by
            unfold eqGuard; split <;> rfl
          cases op <;> simp only [strBin] at hk <;> first
            | exact hk.elim
            | (obtain ⟨h0, hk⟩ := hk; refine done_val hf hw hk (.val _) hn (run _ g ?_); simp only [Go.binOp, Op.stringOp]; rw [if_neg (by simp only [IntKind.max, IntKind.bits, IntKind.signed]; simp; omega)]; rfl)
            | exact done_val hf hw hk (.val _) hn (run _ g (by simp [Go.binOp, Op.stringOp, ofB]))
        | _ => exact hk.elim
      | _ => exact hk.elim
    | _ => exact hk.elim
  | _ => exact hk.elim

theorem unOp_sound (hf : FR H β T s.fr a) (hw : W M w0 H0 H β T s.bx w) (hn : OnTo M w0 H0 a o.dst k next) (op : UnOp) (t : TypeId) (x : Operand) (ho : o.op = .unOp op t x)
    (hk : stepK E (dOf o.dst) (.unOp op t x) s k) : o.wp P a w next Q := by
  have hx := ev_G hf x
  simp only [stepK, stepB] at hk
  generalize hex : ev s x = p at hk hx
  generalize hax : a.eval x = vx at hx
  have run : ∀ val : Value, (Op.unary op vx).run P w = .ok val w → (execOp a.eval o).run P w = .ok (.value val) w := by
    intro val h2
    unfold execOp
    simp only [ho, hax, Sem.run_bind, Sem.run_pure, h2, Result.andThen_ok]
  cases op with
  | not =>
    simp only [unK] at hk
    cases p with
    | tt => cases hx; exact done_val hf hw hk .ff hn (run _ (by simp [Op.unary]))
    | ff => cases hx; exact done_val hf hw hk .tt hn (run _ (by simp [Op.unary]))
    | val v =>
      obtain rfl := gval hx
      cases vx <;> first
        | exact hk.elim
        | exact done_val hf hw hk (ofB_G _) hn (run _ (by simp [Op.unary]))
    | _ => exact hk.elim
  | neg =>
    simp only [unK] at hk
    cases p with
    | val v =>
      obtain rfl := gval hx
      cases vx <;> first
        | exact hk.elim
        | exact done_val hf hw hk (.val _) hn (run _ (by simp [Op.unary, Op.intArith]))
    | _ => exact hk.elim
  | _ => exact hk.elim

/-! ### Lending -/
theorem lendsW_length (f : Nat → Nat → SV) : ∀ l : List SV, (lendW.lendsW f l).length = l.length
  | [] => rfl
  | x :: xs => by simp [lendW.lendsW, lendsW_length f xs]
theorem lendsW_at (f : Nat → Nat → SV) : ∀ (l : List SV) (j : Nat), at' (lendW.lendsW f l) j .junk = lendW f (at' l j .junk)
  | [], _ => rfl
  | x :: xs, 0 => rfl
  | x :: xs, j + 1 => lendsW_at f xs j
theorem gatherK_rel {bx bx' : Tr (Option (List SV))} (hle : ∀ id cs, bx.get id none = some cs → bx'.get id none = some cs) : ∀ (n : Nat) (ids : List Nat) (tb : List (Nat × List SV)) (k : List (Nat × List SV) → Prop),
    (∀ id cs, lookT tb id = some cs → bx.get id none = some cs) → gatherK bx n ids tb k →
    ∃ tb', k tb' ∧ (∀ id cs, lookT tb' id = some cs → bx.get id none = some cs) ∧ ∀ k' : List (Nat × List SV) → Prop, k' tb' → gatherK bx' n ids tb k'
  | 0, ids, tb, k, ht, h => ⟨tb, h, ht, fun _ h => h⟩
  | n + 1, [], tb, k, ht, h => ⟨tb, h, ht, fun _ h => h⟩
  | n + 1, id :: r, tb, k, ht, h => by
    unfold gatherK at h ⊢
    cases hb : bx.get id none with
    | none => rw [hb] at h; exact h.elim
    | some cs =>
      rw [hb] at h
      rw [hle _ _ hb]
      refine gatherK_rel hle n _ _ k (fun id' cs' e => ?_) h
      simp only [lookT] at e
      cases hq : Nat.beq id id' with
      | true =>
        rw [hq] at e
        cases e
        rw [← Nat.eq_of_beq_eq_true hq]; exact hb
      | false => rw [hq] at e; exact ht _ _ e
variable {bx : Tr (Option (List SV))}
/-- the sealed cells, and all variables -/
noncomputable def lent (H : HM) (β : BM) (bx : Tr (Option (List SV))) (w : World) : HM := fun b q =>
  open Classical in if ∃ id cs, bx.get id none = some cs ∧ β id = some b ∧ q < cs.length then w.cell? ⟨b, q, none⟩ else H b q
theorem lent_ext (hw : W M w0 H0 H β T bx w) : HLe H (lent H β bx w) := fun b q v e => by
  unfold lent
  split
  · rename_i h
    obtain ⟨id, cs, h1, h2, h3⟩ := h
    obtain ⟨k, hk, _, hj⟩ := hw.box id cs h1
    obtain rfl : b = k := Option.some.inj (h2.symm.trans hk)
    have := (hj q h3).1
    rw [e] at this; cases this
  · exact e
theorem lent_lies (hw : W M w0 H0 H β T bx w) : ∀ b q v, lent H β bx w b q = some v → w.cell? ⟨b, q, none⟩ = some v := fun b q v e => by
  unfold lent at e
  split at e
  · exact e
  · exact (hw.lies b q v e).1
theorem lendW_G {HL : HM} (hH : HLe H HL) (f : Nat → Nat → SV) {β : BM} {T : TM} {x : SV} {v : Value} (h : G H β T x v) :
    (∀ b o k, β b = some k → G HL noB noT (f b o) (.pointer (some ⟨k, o, none⟩))) → G HL noB noT (lendW f x) v := by
  induction h with
  | val v => intros; exact .val v
  | tt => intros; exact .tt
  | ff => intros; exact .ff
  | junk v => intros; exact .junk v
  | nb Q b h => intros; exact .nb Q b h
  | rowE => intros; exact .rowE ..
  | row X sz cs d l b off c vs hc hz hh hg ih => intros; exact .row X sz cs d l b off c vs hc hz (fun i j a e => hH _ _ _ (hh i j a e)) (fun i j a e => (hg i j a e).mono hH (.refl _) (.refl _))
  | ownE => intros; exact .rowE ..
  | own X sz cs d l id b off c vs hc hz hh hg hT ih => intros; exact .row X sz cs d l b off c vs hc hz (fun i j a e => hH _ _ _ (hh i j a e)) (fun i j a e => (hg i j a e).mono hH (.refl _) (.refl _))
  | elt X sz cs d l i o b p vs hz hh hg ih => intros; exact .elt X sz cs d l i o b p vs hz (fun j e => hH _ _ _ (hh j e)) (fun j e => (hg j e).mono hH (.refl _) (.refl _))
  | box b o k h => intro hf; exact hf b o k h
  | arr b z n k h => intros; exact .junk _
  | agg l vs hn h ih => intro hf; exact .agg _ vs (by rw [lendsW_length]; exact hn) fun j e => by rw [lendsW_at]; exact ih j (by rw [lendsW_length] at e; exact e) hf
  | tup l vs hn h ih => intro hf; exact .tup _ vs (by rw [lendsW_length]; exact hn) fun j e => by rw [lendsW_at]; exact ih j (by rw [lendsW_length] at e; exact e) hf
  | fn g l vs hn h ih => intro hf; exact .fn g _ vs (by rw [lendsW_length]; exact hn) fun j e => by rw [lendsW_at]; exact ih j (by rw [lendsW_length] at e; exact e) hf
theorem lend_G (hw : W M w0 H0 H β T bx w) {tb : List (Nat × List SV)} (ht : ∀ id cs, lookT tb id = some cs → bx.get id none = some cs) : ∀ (n : Nat) {x : SV} {v : Value}, G H β T x v → G (lent H β bx w) noB noT (lendW (lendB tb n) x) v
  | 0, x, v, h => lendW_G (lent_ext hw) _ h fun b o k _ => .junk _
  | n + 1, x, v, h => lendW_G (lent_ext hw) _ h fun b o k hk => by
    show G _ _ _ (match lookT tb b with | some cs => SV.elt Unit cs.length (fun _ => lendW.lendsW (lendB tb n) cs) () [()] 0 o | none => .junk) _
    cases hb : lookT tb b with
    | none => exact .junk _
    | some cs =>
      have hb := ht _ _ hb
      obtain ⟨k', hk', _, hj⟩ := hw.box b cs hb
      obtain rfl : k = k' := Option.some.inj (hk.symm.trans hk')
      have := G.elt (H := lent H β bx w) (β := noB) (T := noT) Unit cs.length (fun _ => lendW.lendsW (lendB tb n) cs) () [()] 0 o k 0 (fun j => (w.cell? ⟨k, j, none⟩).getD undef)
        (lendsW_length _ _) (fun j hjl => by
          obtain ⟨_, _, _, u, hu, _⟩ := hj j hjl
          unfold lent
          rw [Nat.zero_add, if_pos ⟨b, cs, hb, hk', hjl⟩, hu]; rfl) (fun j hjl => by
          obtain ⟨_, _, _, u, hu, hg⟩ := hj j hjl
          rw [lendsW_at, hu]
          exact lend_G hw ht n hg)
      simpa using this
theorem scals_at {l : List SV} (h : scal.scals l = true) : ∀ j, j < l.length → scal (at' l j .junk) = true := by
  induction l with
  | nil => intro j hj; simp at hj
  | cons x xs ih =>
    intro j hj
    unfold scal.scals at h
    cases hx : scal x with
    | false => rw [hx] at h; simp at h
    | true =>
      rw [hx] at h
      cases j with
      | zero => exact hx
      | succ j => exact ih h j (by simpa using hj)
theorem G.scal {H : HM} {β : BM} {T : TM} {s : SV} {v : Value} (h : G H β T s v) : Ax.scal s = true → ∀ (H' : HM) (β' : BM) (T' : TM), G H' β' T' s v := by
  induction h with
  | val v => intros; exact .val v
  | tt => intros; exact .tt
  | ff => intros; exact .ff
  | junk v => intros; exact .junk v
  | nb Q b h => intros; exact .nb Q b h
  | agg l vs hn h ih => intro hi H' β' T'; exact .agg l vs hn fun j e => ih j e (scals_at (by simpa [Ax.scal] using hi) j e) H' β' T'
  | tup l vs hn h ih => intro hi H' β' T'; exact .tup l vs hn fun j e => ih j e (scals_at (by simpa [Ax.scal] using hi) j e) H' β' T'
  | _ => intro hi; simp [Ax.scal] at hi

/-- what is handed to a function, and that the call enters it -/
theorem call_enters (hf : FR H β T s.fr a) (f : Operand) (g : FuncId) (caps : List SV) (c : Call) (ho : o.op = .call c) (hc : c.callee = .value f)
    (hcf : ev s f = .fn g caps) {fn : Func} (hfn : P.funcs[g]? = some fn) (hname : (fn.name == "runtime.NumGoroutine") = false) (hbody : fn.body.isNone = false) :
    ∃ vs : Array Value, vs.size = (c.args.toList.map (ev s) ++ caps).length ∧ (∀ j, j < (c.args.toList.map (ev s) ++ caps).length → G H β T (at' (c.args.toList.map (ev s) ++ caps) j .junk) (vs.getD j undef)) ∧
      (execOp a.eval o).run P w = .ok (.enter g vs) w := by
  have hfn2 := ev_G hf f
  rw [hcf] at hfn2
  generalize hfv : a.eval f = fv at hfn2
  cases hfn2 with
  | fn _ _ vs hvn hvg =>
  refine ⟨c.args.map a.eval ++ vs, by simp; omega, ?_, ?_⟩
  · intro j hj
    have hjl : j < c.args.size + caps.length := by simp at hj; omega
    rw [at'_get _ _ _ (by simpa using hjl), List.getElem_append]
    by_cases hja : j < c.args.size
    · rw [dif_pos (by simpa using hja), List.getElem_map, Array.getElem_toList]
      have e : (c.args.map a.eval ++ vs).getD j undef = a.eval c.args[j] := by
        rw [Array.getD_eq_getD_getElem?, Array.getElem?_append_left (by simpa using hja)]
        simp [hja]
      rw [e]; exact ev_G hf _
    · rw [dif_neg (by simpa using hja)]
      have hk' : j - c.args.size < caps.length := by omega
      have e : (c.args.map a.eval ++ vs).getD j undef = vs.getD (j - c.args.size) undef := by
        rw [Array.getD_eq_getD_getElem?, Array.getElem?_append_right (by simpa using hja), Array.getD_eq_getD_getElem?]
        simp
      rw [e]
      have := hvg (j - c.args.size) hk'
      rw [at'_get _ _ _ hk'] at this
      simpa using this
  · unfold execOp
    obtain ⟨callee, args, argTypes⟩ := c
    simp only at hc
    subst hc
    simp only [ho, resolve, hfv, Deferred.ofValue, Sem.run_bind, Sem.run_pure, Result.andThen_ok, invoke, callFunc, run_program, hfn]
    simp [hname, hbody]
/-- a call of a function that only reads what it is handed -/
theorem lend_sound (hE : EnvOk P E) (hf : FR H β T s.fr a) (hw : W M w0 H0 H β T s.bx w) (hn : OnTo M w0 H0 a o.dst k next) (f : Operand) (g : FuncId) (caps : List SV) (c : Call) (ho : o.op = .call c) (hc : c.callee = .value f)
    (hcf : ev s f = .fn g caps) {ct : Ctr} (hct : E.ctr g = some ct) {tb : List (Nat × List SV)} (ht : ∀ id cs, lookT tb id = some cs → s.bx.get id none = some cs) (n : Nat) (x : ct.A) (hs : SubL (lendW.lendsW (lendB tb n) (c.args.toList.map (ev s) ++ caps)) (ct.enc x)) (hi : imm.imms (ct.enc x) = true) (hd : ct.dom x) (id : Nat)
    (hsc : scal (ct.res x id) = true) (hk : k (ct.res x id) s) : o.wp P a w next Q := by
  obtain ⟨⟨fn, hfn, hname, hbody⟩, hsound⟩ := hE.ctr g ct hct
  obtain ⟨hlen, hsub⟩ := SubL_at hs
  obtain ⟨vs, hvn, hvg, hrun⟩ := call_enters (w := w) (P := P) hf f g caps c ho hc hcf hfn hname hbody
  rw [lendsW_length] at hlen
  have hargs : ∀ j, j < (ct.enc x).length → G (lent H β s.bx w) noB noT (at' (ct.enc x) j .junk) (vs.getD j undef) := by
    intro j hj
    have h1 := lend_G hw ht n (hvg j (by omega))
    rw [← lendsW_at] at h1
    exact h1.sub (hsub j hj)
  have hcalls := hsound x (lent H β s.bx w) w vs id hd (lent_lies hw) (by omega) hargs
  unfold Oper.wp
  rw [hrun]
  simp only [Oper.upon]
  refine hcalls.mono ?_
  rintro e w' ⟨v, H', T', rfl, hb, hH, hold, hT', hseal, hg⟩
  have hcell : ∀ b q v, w.cell? ⟨b, q, none⟩ = some v → w'.cell? ⟨b, q, none⟩ = some v := fun b q v e => by
    rw [hb.cell (p := ⟨b, q, none⟩) (cell_lt e)]; exact e
  have hfro : ∀ b q, b < w.heap.size → w'.frozen? ⟨b, q, none⟩ = w.frozen? ⟨b, q, none⟩ := fun b q e => hb.frozen (p := ⟨b, q, none⟩) e
  refine hn _ _ v H β T w' hk hf ?_ (hg.scal hsc H β T)
  refine ⟨fun b q u e => ⟨hcell _ _ _ (hw.lies b q u e).1, (hw.lies b q u e).2⟩, ?_, ?_, hw.inj, ?_, hw.keep.below hb, hw.ext, hw.fresh⟩
  · intro id' cs e
    obtain ⟨kk, hkk, hm, hj⟩ := hw.box id' cs e
    refine ⟨kk, hkk, hm, fun j hlt => ?_⟩
    obtain ⟨a1, a2, a3, u, a4, a5⟩ := hj j hlt
    exact ⟨a1, a2, by rw [hfro _ _ (cell_lt a4)]; exact a3, u, hcell _ _ _ a4, a5⟩
  · intro id' kk e
    obtain ⟨a1, a2⟩ := hw.bβ id' kk e
    exact ⟨Nat.lt_of_lt_of_le a1 hb.size, a2⟩
  · intro b q i e
    obtain ⟨a1, a2, a3⟩ := hw.tail b q i e
    obtain ⟨u, hu⟩ := Option.isSome_iff_exists.1 a2
    exact ⟨a1, by rw [hcell _ _ _ hu]; rfl, by rw [hfro _ _ (cell_lt hu)]; exact a3⟩
/-- a call in one state, and in one with more variables -/
theorem enterK_mono {d : Nat} {bx bx' : Tr (Option (List SV))} {c : Ctr} {l : List SV} {k : SV → Prop} (hle : ∀ id cs, bx.get id none = some cs → bx'.get id none = some cs) (h : enterK d bx c l k) : ∃ v, (∀ k' : SV → Prop, k' v → enterK d bx' c l k') ∧ k v ∧
    ((hasB.hasBs l = false ∧ ∃ x : c.A, SubL l (c.enc x) ∧ imm.imms (c.enc x) = true ∧ c.dom x ∧ v = c.res x d) ∨
    (hasB.hasBs l = true ∧ ∃ (tb : List (Nat × List SV)) (x : c.A), (∀ id cs, lookT tb id = some cs → bx.get id none = some cs) ∧ SubL (lendW.lendsW (lendB tb 3) l) (c.enc x) ∧ imm.imms (c.enc x) = true ∧ c.dom x ∧ scal (c.res x d) = true ∧ v = c.res x d)) := by
  unfold enterK at h
  cases hb : hasB.hasBs l with
  | false =>
    rw [hb] at h
    obtain ⟨x, h1, h2, h3, h4⟩ := h
    rw [force_eq] at h4
    refine ⟨_, fun k' hk' => ?_, h4, .inl ⟨rfl, x, h1, h2, h3, rfl⟩⟩
    unfold enterK
    rw [hb]
    exact ⟨x, h1, h2, h3, by rw [force_eq]; exact hk'⟩
  | true =>
    rw [hb] at h
    obtain ⟨tb, ⟨x, h1, h2, h3, h4⟩, ht, hback⟩ := gatherK_rel hle 6 _ [] _ (fun _ _ e => by cases e) h
    rw [force_eq] at h4
    cases hsc : scal (c.res x d) with
    | false => rw [hsc] at h4; exact h4.elim
    | true =>
      rw [hsc] at h4
      refine ⟨_, fun k' hk' => ?_, h4, .inr ⟨rfl, tb, x, ht, h1, h2, h3, hsc, rfl⟩⟩
      unfold enterK
      rw [hb]
      exact hback _ ⟨x, h1, h2, h3, by rw [force_eq, hsc]; exact hk'⟩
theorem enterK_elim {d : Nat} {bx : Tr (Option (List SV))} {c : Ctr} {l : List SV} {k : SV → Prop} (h : enterK d bx c l k) :
    (hasB.hasBs l = false ∧ ∃ x : c.A, SubL l (c.enc x) ∧ imm.imms (c.enc x) = true ∧ c.dom x ∧ k (c.res x d)) ∨
    (hasB.hasBs l = true ∧ ∃ (tb : List (Nat × List SV)) (x : c.A), (∀ id cs, lookT tb id = some cs → bx.get id none = some cs) ∧ SubL (lendW.lendsW (lendB tb 3) l) (c.enc x) ∧ imm.imms (c.enc x) = true ∧ c.dom x ∧ scal (c.res x d) = true ∧ k (c.res x d)) := by
  obtain ⟨v, -, hk, h | h⟩ := enterK_mono (fun _ _ h => h) h
  · obtain ⟨h0, x, h1, h2, h3, rfl⟩ := h
    exact .inl ⟨h0, x, h1, h2, h3, hk⟩
  · obtain ⟨h0, tb, x, ht, h1, h2, h3, hsc, rfl⟩ := h
    exact .inr ⟨h0, tb, x, ht, h1, h2, h3, hsc, hk⟩
theorem enterK_rel {d : Nat} {bx : Tr (Option (List SV))} {c : Ctr} {l : List SV} {k : SV → Prop} (h : enterK d bx c l k) : ∃ v, (∀ k' : SV → Prop, k' v → enterK d bx c l k') ∧ k v := by
  obtain ⟨v, h1, h2, -⟩ := enterK_mono (fun _ _ h => h) h
  exact ⟨v, h1, h2⟩

/-- the value of a function's own contract -/
theorem call_sound (hE : EnvOk P E) (hf : FR H β T s.fr a) (hw : W M w0 H0 H β T s.bx w) (hn : OnTo M w0 H0 a o.dst k next) (f : Operand) (g : FuncId) (caps : List SV) (c : Call) (ho : o.op = .call c) (hc : c.callee = .value f)
    (hcf : ev s f = .fn g caps) {ct : Ctr} (hct : E.ctr g = some ct) (x : ct.A) (hs : SubL (c.args.toList.map (ev s) ++ caps) (ct.enc x)) (hi : imm.imms (ct.enc x) = true) (hd : ct.dom x) (id : Nat) (hk : k (ct.res x id) s) : o.wp P a w next Q := by
  obtain ⟨⟨fn, hfn, hname, hbody⟩, hsound⟩ := hE.ctr g ct hct
  obtain ⟨hlen, hsub⟩ := SubL_at hs
  have hfn2 := ev_G hf f
  rw [hcf] at hfn2
  generalize hfv : a.eval f = fv at hfn2
  cases hfn2 with
  | fn _ _ vs hvn hvg =>
  have hargs : ∀ j, j < (ct.enc x).length → G H noB noT (at' (ct.enc x) j .junk) ((c.args.map a.eval ++ vs).getD j undef) := by
    intro j hj
    have hjl : j < c.args.size + caps.length := by simp at hlen; omega
    have h1 : G H β T (at' (c.args.toList.map (ev s) ++ caps) j .junk) ((c.args.map a.eval ++ vs).getD j undef) := by
      rw [at'_get _ _ _ (by simpa using hjl), List.getElem_append]
      by_cases hja : j < c.args.size
      · rw [dif_pos (by simpa using hja), List.getElem_map, Array.getElem_toList]
        have e : (c.args.map a.eval ++ vs).getD j undef = a.eval c.args[j] := by
          rw [Array.getD_eq_getD_getElem?, Array.getElem?_append_left (by simpa using hja)]
          simp [hja]
        rw [e]; exact ev_G hf _
      · rw [dif_neg (by simpa using hja)]
        have hk' : j - c.args.size < caps.length := by omega
        have e : (c.args.map a.eval ++ vs).getD j undef = vs.getD (j - c.args.size) undef := by
          rw [Array.getD_eq_getD_getElem?, Array.getElem?_append_right (by simpa using hja), Array.getD_eq_getD_getElem?]
          simp
        rw [e]
        have := hvg (j - c.args.size) hk'
        rw [at'_get _ _ _ hk'] at this
        simpa using this
    exact (h1.sub (hsub j hj)).imm (imms_at hi j hj) noB noT
  have hcalls := hsound x H w (c.args.map a.eval ++ vs) id hd (fun b q v e => (hw.lies b q v e).1) (by simp at hlen ⊢; omega) hargs
  have hrun : (execOp a.eval o).run P w = .ok (.enter g (c.args.map a.eval ++ vs)) w := by
    unfold execOp
    obtain ⟨callee, args, argTypes⟩ := c
    simp only at hc
    subst hc
    simp only [ho, resolve, hfv, Deferred.ofValue, Sem.run_bind, Sem.run_pure, Result.andThen_ok, invoke, callFunc, run_program, hfn]
    simp [hname, hbody]
  unfold Oper.wp
  rw [hrun]
  simp only [Oper.upon]
  refine hcalls.mono ?_
  rintro e w' ⟨v, H', T', rfl, hb, hH, hold, hT', hseal, hg⟩
  have hcell : ∀ b q v, w.cell? ⟨b, q, none⟩ = some v → w'.cell? ⟨b, q, none⟩ = some v := fun b q v e => by
    rw [hb.cell (p := ⟨b, q, none⟩) (cell_lt e)]; exact e
  have hfro : ∀ b q, b < w.heap.size → w'.frozen? ⟨b, q, none⟩ = w.frozen? ⟨b, q, none⟩ := fun b q e => hb.frozen (p := ⟨b, q, none⟩) e
  let T2 : TM := fun b q => if b < w.heap.size then T b q else T' b q
  have hTl : TLe T T2 := fun b q i e => by
    obtain ⟨_, h2, _⟩ := hw.tail _ _ _ e
    obtain ⟨u, hu⟩ := Option.isSome_iff_exists.1 h2
    show (if b < w.heap.size then T b q else T' b q) = some i
    rw [if_pos (cell_lt hu)]; exact e
  have hTr : TLe T' T2 := fun b q i e => by
    show (if b < w.heap.size then T b q else T' b q) = some i
    rw [if_neg (by have := (hT' _ _ _ e).1; omega)]; exact e
  refine hn _ _ v H' β T2 w' hk (hf.mono hH (.refl _) hTl) ?_ (hg.mono (.refl _) (noB_le _) hTr)
  refine ⟨?_, ?_, ?_, hw.inj, ?_, hw.keep.below hb, hw.ext.trans hH, ?_⟩
  · intro b q u e
    refine ⟨(hseal b q u e).1, ?_⟩
    show (if b < w.heap.size then T b q else T' b q) = none
    by_cases hlt : b < w.heap.size
    · rw [if_pos hlt]; rw [hold b q hlt] at e; exact (hw.lies b q u e).2
    · rw [if_neg hlt]; exact (hseal b q u e).2
  · intro id' cs e
    obtain ⟨kk, hkk, hm, hj⟩ := hw.box id' cs e
    refine ⟨kk, hkk, hm, fun j hlt => ?_⟩
    obtain ⟨a1, a2, a3, u, a4, a5⟩ := hj j hlt
    have hkl := cell_lt a4
    refine ⟨by rw [hold _ _ hkl]; exact a1, ?_, by rw [hfro _ _ hkl]; exact a3, u, hcell _ _ _ a4, a5.mono hH (.refl _) hTl⟩
    show (if kk < w.heap.size then T kk j else T' kk j) = none
    rw [if_pos hkl]; exact a2
  · intro id' kk e
    obtain ⟨a1, a2⟩ := hw.bβ id' kk e
    exact ⟨Nat.lt_of_lt_of_le a1 hb.size, a2⟩
  · intro b q i e
    replace e : (if b < w.heap.size then T b q else T' b q) = some i := e
    by_cases hlt : b < w.heap.size
    · rw [if_pos hlt] at e
      obtain ⟨a1, a2, a3⟩ := hw.tail b q i e
      obtain ⟨u, hu⟩ := Option.isSome_iff_exists.1 a2
      exact ⟨a1, by rw [hcell _ _ _ hu]; rfl, by rw [hfro _ _ hlt]; exact a3⟩
    · rw [if_neg hlt] at e
      obtain ⟨a1, a2, a3⟩ := hT' b q i e
      exact ⟨.inr (Nat.le_trans hw.keep.size a1), a2, a3⟩
  · intro b q hm
    have hlt : b < w.heap.size := by
      have : ¬ w0.heap.size ≤ b := fun c => hm (.inr c)
      have := hw.keep.size
      omega
    rw [hold b q hlt]
    exact hw.fresh b q hm

theorem len_sound (hE : EnvOk P E) (hf : FR H β T s.fr a) (hw : W M w0 H0 H β T s.bx w) (hn : OnTo M w0 H0 a o.dst k next) (c : Call) (ho : o.op = .call c) (hc : c.callee = .builtin .len)
    (x : Operand) (hx : c.args.toList = [x]) (hk : lenTK E c.argTypes.toList (ev s x) fun v => k v s) : o.wp P a w next Q := by
  obtain ⟨callee, ⟨args⟩, ⟨l⟩⟩ := c
  simp only at hc hx hk
  subst hc hx
  cases l with
  | nil => exact hk.elim
  | cons t r =>
    cases r with
    | cons _ _ => exact hk.elim
    | nil =>
      obtain ⟨ti, hti, hk⟩ := tiK_elim hk
      obtain ⟨d, hd, -, hsl, hstr, -⟩ := (hE.ty _ _ hti).und
      have hxg := ev_G hf x
      generalize hex : ev s x = p at hk hxg
      generalize hax : a.eval x = vx at hxg
      have run : ∀ n : Int, (Builtin.len_ #[t] o.type #[vx]).run P w = .ok (.int .i64 n) w → (execOp a.eval o).run P w = .ok (.value (.int .i64 n)) w := by
        intro n h
        unfold execOp
        simp only [ho, resolve, Sem.run_bind, Sem.run_pure, Result.andThen_ok, invoke, builtin]
        rw [show (Array.map a.eval ⟨[x]⟩) = #[vx] from by simp [hax], h]
        rfl
      have slc : ∀ (ad : Option Addr) (n c : Nat), vx = .slice ad n c → d = .slice ti.elem → k (.val (.int .i64 n)) s → o.wp P a w next Q := by
        intro ad n c h1 h2 hk
        subst h1 h2
        exact done_val hf hw hk (.val _) hn (run _ (by simp [Builtin.len_, run_und hd, goInt]))
      cases hs : ti.slice with
      | true =>
        rw [hs] at hk
        simp only at hk
        unfold lenK at hk
        have h := hsl hs
        cases p with
        | row X z cs dd l => cases hxg <;> exact slc _ _ _ rfl h hk
        | own X z cs dd l id => cases hxg <;> exact slc _ _ _ rfl h hk
        | arr b z n => cases hxg; exact slc _ _ _ rfl h hk
        | val v =>
          obtain rfl := gval hxg
          cases vx with
          | slice ad n c =>
            cases ad with
            | some _ => exact hk.elim
            | none =>
              cases n with
              | zero => exact slc _ _ _ rfl h hk
              | succ n => exact hk.elim
          | _ => exact hk.elim
        | _ => exact hk.elim
      | false =>
        rw [hs] at hk
        simp only at hk
        cases ht : ti.str with
        | false => rw [ht] at hk; exact hk.elim
        | true =>
          rw [ht] at hk
          obtain rfl := hstr ht
          cases p with
          | val v =>
            obtain rfl := gval hxg
            cases vx with
            | string n => exact done_val hf hw hk (.val _) hn (run _ (by simp [Builtin.len_, run_und hd, goInt]))
            | _ => exact hk.elim
          | _ => exact hk.elim

theorem max_sound (hf : FR H β T s.fr a) (hw : W M w0 H0 H β T s.bx w) (hn : OnTo M w0 H0 a o.dst k next) (c : Call) (ho : o.op = .call c) (hc : c.callee = .builtin .max)
    (x y : Operand) (hx : c.args.toList = [x, y]) (kk : IntKind) (n m : Int) (hex : ev s x = .val (.int kk n)) (hey : ev s y = .val (.int kk m)) (hk : k (.val (.int kk (if n < m then m else n))) s) : o.wp P a w next Q := by
  obtain ⟨callee, ⟨args⟩, l⟩ := c
  simp only at hc hx
  subst hc hx
  have h1 := ev_G hf x
  have h2 := ev_G hf y
  rw [hex] at h1
  rw [hey] at h2
  have e1 := gval h1
  have e2 := gval h2
  refine done_val hf hw hk (.val _) hn ?_
  unfold execOp
  simp only [ho, resolve, Sem.run_bind, Sem.run_pure, Result.andThen_ok, invoke, builtin]
  rw [show (Array.map a.eval ⟨[x, y]⟩) = #[.int kk n, .int kk m] from by simp [e1, e2]]
  simp [Builtin.max_, Builtin.max2]

/-! ### Literals, parts of rows, functions as values -/
theorem fold_set (off : Nat) : ∀ (l : List Value) (b : Nat) (cells : Array Value),
    ((l.zipIdx b).foldl (fun cs (x : Value × Nat) => cs.setIfInBounds (off + x.2) x.1) cells).size = cells.size ∧
    ∀ q, q < cells.size → ((l.zipIdx b).foldl (fun cs (x : Value × Nat) => cs.setIfInBounds (off + x.2) x.1) cells).getD q undef =
      if off + b ≤ q ∧ q < off + b + l.length then l.getD (q - (off + b)) undef else cells.getD q undef
  | [], b, cells => ⟨rfl, fun q hq => by rw [if_neg (by simp <;> omega)]; simp⟩
  | v :: l, b, cells => by
    obtain ⟨h1, h2⟩ := fold_set off l (b + 1) (cells.setIfInBounds (off + b) v)
    simp only [List.zipIdx_cons, List.foldl_cons]
    refine ⟨by rw [h1]; simp, fun q hq => ?_⟩
    rw [h2 q (by simpa using hq)]
    by_cases e : q = off + b
    · subst e
      rw [if_neg (by omega), if_pos ⟨Nat.le_refl _, by simp⟩]
      simp [hq]
    · by_cases hr : off + (b + 1) ≤ q ∧ q < off + (b + 1) + l.length
      · rw [if_pos hr, if_pos ⟨by omega, by simp; omega⟩, show q - (off + b) = (q - (off + (b + 1))) + 1 by omega]
        rfl
      · rw [if_neg hr, if_neg (by simp; omega)]
        simp [Array.getD_eq_getD_getElem?, Array.getElem?_setIfInBounds_ne (Ne.symm e)]
theorem fill_sound {ρs : Operand → SV} {ρv : Operand → Value} (hρ : ∀ x, G H β T (ρs x) (ρv x)) {place : Nat → Option (Nat × Nat)} {placeK : Nat → (Nat → Nat → Prop) → Prop}
    (hp : ∀ i (k : Nat → Nat → Prop), placeK i k → ∃ o n, place i = some (o, n) ∧ k o n) : ∀ (parts : List (Nat × Operand)) (cs : List SV) (cells : Array Value) (k : List SV → Prop),
    fillK ρs placeK parts cs k → cells.size = cs.length → (∀ j, j < cs.length → G H β T (at' cs j .junk) (cells.getD j undef)) →
    ∃ cs' cells', Instr.fill place cells (parts.map fun (i, x) => (i, ρv x)) = some cells' ∧ k cs' ∧ cells'.size = cs'.length ∧ cs'.length = cs.length ∧ ∀ j, j < cs'.length → G H β T (at' cs' j .junk) (cells'.getD j undef)
  | [], cs, cells, k, h, hs, hg => ⟨cs, cells, rfl, h, hs, rfl, hg⟩
  | (i, x) :: r, cs, cells, k, h, hs, hg => by
    obtain ⟨o, n, hpl, h⟩ := hp _ _ h
    obtain ⟨vs, h, hvs⟩ := cellsK_elim (H := H) (β := β) (T := T) h
    obtain ⟨hsz, hvg⟩ := hvs _ (hρ x)
    cases hb : Nat.beq vs.length n with
    | false => rw [hb] at h; exact h.elim
    | true =>
      rw [hb] at h
      simp only at h
      cases hl : Nat.ble (o + n) cs.length with
      | false => rw [hl] at h; exact h.elim
      | true =>
        rw [hl] at h
        simp only [forceL_eq] at h
        have hb' := Nat.eq_of_beq_eq_true hb
        have hl' := Nat.le_of_ble_eq_true hl
        obtain ⟨f1, f2⟩ := fold_set o (ρv x).cells.toList 0 cells
        have hlen : (ρv x).cells.toList.length = vs.length := by simpa using hsz
        obtain ⟨cs', cells', e1, e2, e3, e4, e5⟩ := fill_sound hρ hp r (over o vs cs) (((ρv x).cells.toList.zipIdx 0).foldl (fun cs (x : Value × Nat) => cs.setIfInBounds (o + x.2) x.1) cells) k h
          (by rw [f1, over_length]; exact hs) (fun j hj => by
            rw [over_length] at hj
            rw [f2 j (by omega), at'_over _ _ _ _ _ (by omega)]
            by_cases hr : o ≤ j ∧ j < o + vs.length
            · rw [if_pos hr, if_pos (by omega), getD_toList]
              simpa using hvg (j - o) (by omega)
            · rw [if_neg hr, if_neg (by omega)]
              exact hg j hj)
        refine ⟨cs', cells', ?_, e2, e3, by rw [e4, over_length], e5⟩
        rw [List.map_cons]
        unfold Instr.fill
        simp only [hpl]
        rw [if_neg (by simp; omega)]
        rw [← e1]
        congr 1
        rw [← Array.foldl_toList]
        simp

theorem mapM_some {α γ : Type} (g : α → Option γ) : ∀ (l : List α), (∀ (i : Nat) (x : α), l[i]? = some x → ∃ y, g x = some y) → ∃ r, l.mapM g = some r ∧ ∀ (i : Nat) (x : α) (y : γ), l[i]? = some x → g x = some y → r[i]? = some y
  | [], _ => ⟨[], rfl, fun i x y h => by simp at h⟩
  | a :: l, h => by
    obtain ⟨y, hy⟩ := h 0 a rfl
    obtain ⟨r, h1, h2⟩ := mapM_some g l fun i x e => h (i + 1) x (by simpa using e)
    refine ⟨y :: r, by simp [List.mapM_cons, hy, h1], fun i x z e1 e2 => ?_⟩
    cases i with
    | zero =>
      simp at e1
      subst e1
      rw [hy] at e2
      simpa using e2
    | succ i => simpa using h2 i x z (by simpa using e1) e2
theorem build_sound (hE : EnvOk P E) (hf : FR H β T s.fr a) (hw : W M w0 H0 H β T s.bx w) (hn : OnTo M w0 H0 a o.dst k next) (t : TypeId) (parts : Array (Nat × Operand)) (ho : o.op = .build t parts)
    (hk : stepK E (dOf o.dst) (.build t parts) s k) : o.wp P a w next Q := by
  simp only [stepK, stepB, buildK] at hk
  obtain ⟨ti, hti, hk⟩ := tiK_elim hk
  have hT := hE.ty _ _ hti
  cases hfl : ti.flds with
  | nil => rw [hfl] at hk; exact hk.elim
  | cons f0 fr0 =>
    rw [hfl] at hk
    simp only at hk
    cases hz : Nat.ble 1 ti.zero.length with
    | false => rw [hz] at hk; exact hk.elim
    | true =>
      rw [hz] at hk
      simp only at hk
      rw [← hfl] at hk
      have hzl := Nat.le_of_ble_eq_true hz
      obtain ⟨fs, hu, hfs⟩ := hT.all (by rw [hfl]; simp)
      obtain ⟨d, hd, -, -, -, -, hflds⟩ := hT.und
      obtain rfl : d = .struct fs := Option.some.inj (hd.symm.trans hu)
      obtain ⟨i, hi, -, -, hzero⟩ := hT.inf
      obtain ⟨z, hz1, hz2⟩ := hzero (by intro c; rw [c] at hzl; simp at hzl)
      have hmap := mapM_some (fun f : Go.Field => (P.info? f.type).map fun i => (f.offset, i.size)) fs.toList (by
        intro j f e
        have hj : j < fs.size := by
          have := (List.getElem?_eq_some_iff.1 e).1
          simpa using this
        obtain ⟨q, u, e2⟩ : ∃ q u, ti.flds[j]? = some (q, u) := ⟨_, _, List.getElem?_eq_getElem (by omega)⟩
        obtain ⟨fs', fd, e3, e4, e5, e6, i', e7, -⟩ := hflds j q u e2
        cases e3
        rw [← Array.getElem?_toList] at e4
        obtain rfl := Option.some.inj (e.symm.trans e4)
        exact ⟨_, by rw [e6, e7]; rfl⟩)
      obtain ⟨places, hp1, hp2⟩ := hmap
      obtain ⟨cs', cells', e1, e2, e3, -, e5⟩ := fill_sound (H := H) (β := β) (T := T) (fun x => ev_G hf x) (place := (places.toArray[·]?))
        (fun j kk h => by
          obtain ⟨q, u, h1, h2⟩ := fldK_elim h
          obtain ⟨ui, h3, h4⟩ := tiK_elim h2
          obtain ⟨iu, h5, h6, -⟩ := (hE.ty _ _ h3).inf
          obtain ⟨fs', fd, g3, g4, g5, g6, i', g7, -⟩ := hflds j q u h1
          cases g3
          rw [← Array.getElem?_toList] at g4
          refine ⟨q, ui.size, ?_, h4⟩
          rw [List.getElem?_toArray]
          refine hp2 j fd _ g4 ?_
          rw [g6, h5, g5, Option.map_some, h6]) _ _ z.cells _ hk (by rw [← Array.length_toList, hz2]; simp)
        (fun j hj => by
          have hjl : j < ti.zero.length := by simpa using hj
          have e : at' (ti.zero.map SV.val) j .junk = .val (ti.zero[j]) := by rw [at'_get _ _ _ hj, List.getElem_map]
          have e2 : z.cells.getD j undef = ti.zero[j] := by
            rw [← getD_toList, getD_get _ _ (by rw [hz2]; exact hjl)]
            simp [hz2]
          rw [e, e2]; exact .val _)
      refine done_val hf hw e2 (.agg _ cells' e3 e5) hn ?_
      unfold execOp
      simp only [ho, Sem.run_bind]
      rw [run_build w t _ cells' ?_]
      · rfl
      · unfold Program.built
        rw [hi, hu]
        simp only [hz1, hp1]
        rw [← e1]
        simp

theorem makeFunc_sound (hf : FR H β T s.fr a) (hw : W M w0 H0 H β T s.bx w) (hn : OnTo M w0 H0 a o.dst k next) (f : Fn) (fs cs : Array Operand) (ho : o.op = .makeFunc f fs cs)
    (hk : stepK E (dOf o.dst) (.makeFunc f fs cs) s k) : o.wp P a w next Q := by
  simp only [stepK, stepB, makeFuncK] at hk
  cases f with
  | func g =>
    obtain ⟨l0⟩ := fs
    simp only at hk
    cases l0 with
    | cons _ _ => exact hk.elim
    | nil =>
      simp only [forceL_eq] at hk
      refine done_val hf hw hk (.fn g _ (cs.map a.eval) (by simp) fun j hj => ?_) hn (by unfold execOp; simp [ho, Instr.makeFunc])
      have hjl : j < cs.size := by simpa using hj
      rw [at'_get _ _ _ hj, List.getElem_map, Array.getElem_toList]
      have e : (cs.map a.eval).getD j undef = a.eval cs[j] := by simp [hjl]
      rw [e]; exact ev_G hf _
  | _ => exact hk.elim

theorem timesL_length {α : Type _} (l : List α) : ∀ n, (timesL l n).length = n * l.length
  | 0 => by simp [timesL]
  | n + 1 => by simp [timesL, timesL_length l n, Nat.add_mul]; omega
theorem at'_append {α : Type _} (d : α) : ∀ (a b : List α) (j : Nat), at' (a ++ b) j d = if j < a.length then at' a j d else at' b (j - a.length) d
  | [], b, j => by simp
  | x :: a, b, 0 => by simp [at']
  | x :: a, b, j + 1 => by
    rw [List.cons_append, at', at'_append d a b j, List.length_cons]
    by_cases h : j < a.length
    · rw [if_pos h, if_pos (by omega)]; rfl
    · rw [if_neg h, if_neg (by omega), show j + 1 - (a.length + 1) = j - a.length by omega]
theorem at'_timesL {α : Type _} (d : α) (l : List α) : ∀ (n j : Nat), j < n * l.length → at' (timesL l n) j d = at' l (j % l.length) d
  | 0, j, h => by simp at h
  | n + 1, j, h => by
    rw [timesL, at'_append]
    by_cases hj : j < l.length
    · rw [if_pos hj, Nat.mod_eq_of_lt hj]
    · rw [if_neg hj, at'_timesL d l n _ (by rw [Nat.add_mul] at h; omega), Nat.mod_eq_sub_mod (a := j) (by omega)]
theorem flat_length {X : Type} {cs : X → List SV} {sz : Nat} (h : ∀ x, (cs x).length = sz) : ∀ l : List X, (flat cs l).length = l.length * sz
  | [] => by simp [flat]
  | x :: l => by simp [flat, h, flat_length h l, Nat.add_mul]; omega
theorem at'_flat {X : Type} {cs : X → List SV} {sz : Nat} (h : ∀ x, (cs x).length = sz) (e : X) : ∀ (l : List X) (i j : Nat), i < l.length → j < sz → at' (flat cs l) (i * sz + j) .junk = at' (cs (l.getD i e)) j .junk
  | [], i, j, hi, _ => by simp at hi
  | x :: l, 0, j, _, hj => by
    rw [flat, at'_append, if_pos (by rw [h]; omega)]
    simp
  | x :: l, i + 1, j, hi, hj => by
    rw [flat, at'_append, if_neg (by rw [h, Nat.add_mul]; omega), h, show (i + 1) * sz + j - sz = i * sz + j by rw [Nat.add_mul]; omega, at'_flat h e l i j (by simpa using hi) hj]
    simp

def hset (H : HM) (n : Nat) (vs : Array Value) : HM := fun b q => if b = n then vs[q]? else H b q
/-- a block is made whose cells stay as they are -/
theorem W.newRow (h : W M w0 H0 H β T s.bx w) (vs : Array Value) (t : TypeId) : HLe H (hset H w.heap.size vs) ∧ W M w0 H0 (hset H w.heap.size vs) β T s.bx (w.alloc (.cells vs t)) := by
  have hno : ∀ q, H w.heap.size q = none := fun q => (no_new h q).1
  have hle : HLe H (hset H w.heap.size vs) := fun b q v e => by
    unfold hset
    by_cases hb : b = w.heap.size
    · rw [hb, hno] at e; cases e
    · rw [if_neg hb]; exact e
  have h' := h.heap_eq (w' := w.alloc (.cells vs t)) (h.keep.alloc _) (fun b o v e => cell_alloc e) (fun b o hb => frozen_alloc hb) (by simp)
  refine ⟨hle, ?_, ?_, h'.bβ, h'.inj, h'.tail, h'.keep, h.ext.trans hle, ?_⟩
  · intro b q v e
    unfold hset at e
    by_cases hb : b = w.heap.size
    · rw [if_pos hb] at e
      subst hb
      exact ⟨by rw [World.cell?_alloc_new]; simpa using e, (no_new h q).2⟩
    · rw [if_neg hb] at e
      exact h'.lies b q v e
  · intro id cs e
    obtain ⟨k, hk, hm, hj⟩ := h'.box id cs e
    refine ⟨k, hk, hm, fun j hlt => ?_⟩
    obtain ⟨a1, a2, a3, v, a4, a5⟩ := hj j hlt
    refine ⟨?_, a2, a3, v, a4, a5.mono hle (.refl _) (.refl _)⟩
    unfold hset
    rw [if_neg (by have := (h.bβ id k hk).1; omega)]
    exact a1
  · intro b q hm
    unfold hset
    rw [if_neg (fun c => hm (by rw [c]; exact .inr h.keep.size))]
    exact h.fresh b q hm

theorem buildSlice_sound (hE : EnvOk P E) (hf : FR H β T s.fr a) (hw : W M w0 H0 H β T s.bx w) (hn : OnTo M w0 H0 a o.dst k next) (t : TypeId) (len : Nat) (parts : Array (Nat × Operand)) (ho : o.op = .buildSlice t len parts)
    (hk : stepK E (dOf o.dst) (.buildSlice t len parts) s k) : o.wp P a w next Q := by
  simp only [stepK, stepB, buildSliceK] at hk
  obtain ⟨ti, hti, hk⟩ := tiK_elim hk
  cases hsl : ti.slice with
  | false => rw [hsl] at hk; exact hk.elim
  | true =>
    rw [hsl] at hk
    obtain ⟨ui, hui, hk⟩ := tiK_elim hk
    cases h1 : Nat.beq ui.zero.length ui.size with
    | false => rw [h1] at hk; exact hk.elim
    | true =>
      rw [h1] at hk
      simp only at hk
      cases h2 : Nat.ble 1 (len * ui.size) with
      | false => rw [h2] at hk; exact hk.elim
      | true =>
        rw [h2] at hk
        simp only at hk
        cases h3 : Nat.ble (len * ui.size) 16777216 with
        | false => rw [h3] at hk; exact hk.elim
        | true =>
          rw [h3] at hk
          simp only at hk
          have g1 := Nat.eq_of_beq_eq_true h1
          have g2 := Nat.le_of_ble_eq_true h2
          have g3 := Nat.le_of_ble_eq_true h3
          have hsz : 0 < ui.size := Nat.pos_of_ne_zero fun c => by rw [c] at g2; simp at g2
          obtain ⟨d, hd, -, hds, -⟩ := (hE.ty _ _ hti).und
          obtain rfl := hds hsl
          obtain ⟨i, hi, hisz, -, hzero⟩ := (hE.ty _ _ hui).inf
          obtain ⟨z, hz1, hz2⟩ := hzero (by intro c; rw [c] at g1; simp at g1; omega)
          have hzs : z.cells.size = ui.size := by rw [← Array.length_toList, hz2, g1]
          obtain ⟨cs', cells', e1, ⟨X, cs, e, l, ⟨hl, hcs⟩, hsub, himm, hk⟩, e3, e4, e5⟩ := fill_sound (H := H) (β := β) (T := T) (fun x => ev_G hf x) (place := fun i => some (i * ui.size, ui.size))
            (fun j kk h => ⟨_, _, rfl, h⟩) _ _ ((Array.range (len * ui.size)).map (z.cells[· % z.cells.size]!)) _ hk (by rw [timesL_length]; simp [g1])
            (fun j hj => by
              rw [timesL_length, List.length_map] at hj
              rw [at'_timesL _ _ _ _ (by rw [List.length_map]; exact hj), List.length_map]
              have hm : j % ui.zero.length < ui.zero.length := Nat.mod_lt _ (by omega)
              have ee : at' (ui.zero.map SV.val) (j % ui.zero.length) .junk = .val (ui.zero[j % ui.zero.length]) := by rw [at'_get _ _ _ (by simpa using hm), List.getElem_map]
              have e2 : ((Array.range (len * ui.size)).map (z.cells[· % z.cells.size]!)).getD j undef = ui.zero[j % ui.zero.length] := by
                have hjl : j < len * ui.size := by rw [← g1]; exact hj
                have hm2 : j % z.cells.size < z.cells.size := by rw [hzs, ← g1]; exact hm
                have e6 : z.cells[j % z.cells.size]! = z.cells.toList.getD (j % z.cells.size) undef := by
                  rw [getD_toList]; simp [hm2]
                simp only [Array.getD, Array.size_map, Array.size_range, hjl, dite_true]
                simp only [Array.getInternal_eq_getElem, Array.getElem_map, Array.getElem_range]
                rw [e6, hz2, getD_get _ _ (by rw [hzs, ← g1]; exact hm)]
                simp only [hzs, g1]
              rw [ee, e2]; exact .val _)
          obtain ⟨hlen, hsubj⟩ := SubL_at hsub
          have hfl := flat_length hcs l
          obtain ⟨hle, hw'⟩ := hw.newRow (s := s) cells' ti.elem
          have hrun : (execOp a.eval o).run P w = .ok (.value (.slice (some ⟨w.heap.size, 0, none⟩) len len)) (w.alloc (.cells cells' ti.elem)) := by
            unfold execOp
            simp only [ho, Sem.run_bind]
            rw [run_buildSlice w t ti.elem len _ cells' i z hd hi hz1 (by rw [hisz]; omega) (by rw [hisz]; omega) (by rw [hisz, ← e1]; simp)]
            rfl
          unfold Oper.wp
          rw [hrun]
          refine hn _ _ _ _ β T _ hk (hf.mono hle (.refl _) (.refl _)) hw' ?_
          subst hl
          refine .own X ui.size cs e l _ w.heap.size 0 l.length (fun i j => cells'.getD (i * ui.size + j) undef) (Nat.le_refl _) (fun i _ => hcs _) ?_ ?_ (fun q h1 h2 => by omega)
          · intro i j hi hj
            have hb : i * ui.size + j < l.length * ui.size := by
              have := Nat.mul_le_mul_right ui.size (show i + 1 ≤ l.length by omega)
              rw [Nat.add_mul] at this; omega
            have hc : i * ui.size + j < cells'.size := by omega
            simp [hset, hc]
          · intro i j hi hj
            have hb : i * ui.size + j < l.length * ui.size := by
              have := Nat.mul_le_mul_right ui.size (show i + 1 ≤ l.length by omega)
              rw [Nat.add_mul] at this; omega
            rw [← at'_flat hcs e l i j hi hj]
            have h7 := (e5 (i * ui.size + j) (by omega)).sub (hsubj _ (by omega))
            exact (h7.imm (imms_at himm _ (by omega)) noB noT).mono hle (.refl _) (.refl _)

theorem run_bounds (isSlice : Bool) (len cap : Nat) (lo hi : Option Value) (l h : Nat) (hlo : (lo = none ∧ l = 0) ∨ ∃ k i, lo = some (.int k i) ∧ 0 ≤ i ∧ i.toNat = l)
    (hhi : (hi = none ∧ h = len) ∨ ∃ k i, hi = some (.int k i) ∧ 0 ≤ i ∧ i.toNat = h) (h1 : l ≤ h) (h2 : h ≤ cap) : (Instr.sliceBounds isSlice len cap lo hi none).run P w = .ok (l, h, cap) w := by
  have hl : ∀ k (i : Int) c, 0 ≤ i → i.toNat = l → (Instr.sliceBound (.int k i) h c).run P w = .ok l w := fun k i c a b => by rw [run_sliceBound w k i h c a (by omega), b]
  rcases hhi with ⟨rfl, rfl⟩ | ⟨kh, ih, rfl, hh0, hh⟩
  · rcases hlo with ⟨rfl, rfl⟩ | ⟨k, i, rfl, h3, h4⟩
    · simp [Instr.sliceBounds]
    · simp [Instr.sliceBounds, hl k i _ h3 h4]
  · have hb : ∀ c, (Instr.sliceBound (.int kh ih) cap c).run P w = .ok h w := fun c => by rw [run_sliceBound w kh ih cap c hh0 (by omega), hh]
    rcases hlo with ⟨rfl, rfl⟩ | ⟨k, i, rfl, h3, h4⟩
    · simp [Instr.sliceBounds, hb]
    · simp [Instr.sliceBounds, hb, hl k i _ h3 h4]
theorem lowK_elim {x : Option Operand} {ρs : Operand → SV} {ρv : Operand → Value} (hρ : ∀ x, G H β T (ρs x) (ρv x)) {k : Int → Prop} (h : lowK (x.map ρs) k) :
    ∃ i, k i ∧ (0 ≤ i → (x.map ρv = none ∧ i.toNat = 0) ∨ ∃ kk j, x.map ρv = some (.int kk j) ∧ 0 ≤ j ∧ j.toNat = i.toNat) := by
  cases x with
  | none => exact ⟨0, h, fun _ => .inl ⟨rfl, rfl⟩⟩
  | some x =>
    simp only [Option.map_some, lowK] at h
    have hx := hρ x
    generalize ρs x = p at h hx
    cases p with
    | val v =>
      cases v with
      | int kk n => exact ⟨n, h, fun hn => .inr ⟨kk, n, by rw [Option.map_some, gval hx], hn, rfl⟩⟩
      | _ => exact h.elim
    | _ => exact h.elim
theorem cutRow_elim {X : Type} {l : List X} {x : Option Operand} {ρs : Operand → SV} {ρv : Operand → Value} (hρ : ∀ x, G H β T (ρs x) (ρv x)) {lo : Int} {k : List X → Prop} (h : cutRow l (x.map ρs) lo k) :
    ∃ hh : Nat, 0 ≤ lo ∧ lo ≤ hh ∧ hh ≤ l.length ∧ k ((l.take hh).drop lo.toNat) ∧ ((x.map ρv = none ∧ hh = l.length) ∨ ∃ kk j, x.map ρv = some (.int kk j) ∧ 0 ≤ j ∧ j.toNat = hh) := by
  cases x with
  | none => exact ⟨l.length, h.1.1, h.1.2, Nat.le_refl _, by rw [List.take_length]; exact h.2, .inl ⟨rfl, rfl⟩⟩
  | some x =>
    simp only [Option.map_some, cutRow] at h
    have hx := hρ x
    generalize ρs x = p at h hx
    cases p with
    | val v =>
      cases v with
      | int kk n =>
        obtain ⟨⟨h1, h2, h3⟩, h4⟩ := h
        exact ⟨n.toNat, h1, by omega, by omega, h4, .inr ⟨kk, n, by rw [Option.map_some, gval hx], by omega, rfl⟩⟩
      | _ => exact h.elim
    | _ => exact h.elim
theorem cutStr_elim {b : ByteArray} {x : Option Operand} {ρs : Operand → SV} {ρv : Operand → Value} (hρ : ∀ x, G H β T (ρs x) (ρv x)) {lo : Int} {k : ByteArray → Prop} (h : cutStr b (x.map ρs) lo k) :
    ∃ hh : Nat, 0 ≤ lo ∧ lo ≤ hh ∧ hh ≤ b.size ∧ k (b.extract lo.toNat hh) ∧ ((x.map ρv = none ∧ hh = b.size) ∨ ∃ kk j, x.map ρv = some (.int kk j) ∧ 0 ≤ j ∧ j.toNat = hh) := by
  cases x with
  | none => exact ⟨b.size, h.1.1, h.1.2, Nat.le_refl _, h.2, .inl ⟨rfl, rfl⟩⟩
  | some x =>
    simp only [Option.map_some, cutStr] at h
    have hx := hρ x
    generalize ρs x = p at h hx
    cases p with
    | val v =>
      cases v with
      | int kk n =>
        obtain ⟨⟨h1, h2, h3⟩, h4⟩ := h
        exact ⟨n.toNat, h1, by omega, by omega, h4, .inr ⟨kk, n, by rw [Option.map_some, gval hx], by omega, rfl⟩⟩
      | _ => exact h.elim
    | _ => exact h.elim
/-- a part of a row -/
theorem G_cut {X : Type} {z : Nat} {cs : X → List SV} {d : X} {l : List X} {ad : Option Addr} {n c : Nat} (h : G H β T (.row X z cs d l) (.slice ad n c)) {lo hh : Nat} (h1 : lo ≤ hh) (h2 : hh ≤ l.length) :
    l.length = n ∨ n = 0 ∧ l = [] := by
  cases h with
  | rowE => exact .inr ⟨rfl, rfl⟩
  | row => exact .inl rfl
theorem G_part {X : Type} {z : Nat} {cs : X → List SV} {d : X} {l : List X} {ad : Option Addr} {n c : Nat} (h : G H β T (.row X z cs d l) (.slice ad n c)) {lo hh : Nat} (h1 : lo ≤ hh) (h2 : hh ≤ l.length) :
    G H β T (.row X z cs d ((l.take hh).drop lo)) (.slice (if c = lo then ad else ad.map (·.add (lo * z))) (hh - lo) (c - lo)) ∧ hh ≤ c ∧ l.length = n := by
  cases h with
  | rowE =>
    obtain rfl : hh = 0 := by simpa using h2
    simp only [List.take_nil, List.drop_nil, Nat.zero_sub]
    exact ⟨.rowE .., Nat.zero_le _, rfl⟩
  | row _ _ _ _ _ b off _ vs hc hz hH hG =>
    refine ⟨?_, by omega, rfl⟩
    by_cases he : hh = lo
    · subst he
      rw [List.drop_eq_nil_of_le (by simp; omega), Nat.sub_self]
      exact .rowE ..
    · rw [if_neg (by omega)]
      have hlen : ((l.take hh).drop lo).length = hh - lo := by simp; omega
      have hget : ∀ i, i < hh - lo → ((l.take hh).drop lo).getD i d = l.getD (lo + i) d := fun i hi => by
        simp [List.getD, List.getElem?_drop, List.getElem?_take, show lo + i < hh by omega]
      rw [show hh - lo = ((l.take hh).drop lo).length from hlen.symm, Option.map_some, add_none]
      refine .row X z cs d _ b (off + lo * z) _ (fun i j => vs (lo + i) j) (by omega) ?_ ?_ ?_
      · intro i hi; rw [hget i (by omega)]; exact hz _ (by omega)
      · intro i j hi hj
        have := hH (lo + i) j (by omega) hj
        rw [Nat.add_mul] at this
        rw [show off + lo * z + i * z + j = off + (lo * z + i * z) + j by omega]
        exact this
      · intro i j hi hj; rw [hget i (by omega)]; exact hG _ _ (by omega) hj
theorem slice_sound (hE : EnvOk P E) (hf : FR H β T s.fr a) (hw : W M w0 H0 H β T s.bx w) (hn : OnTo M w0 H0 a o.dst k next) (t : TypeId) (x : Operand) (lo hi mx : Option Operand) (ho : o.op = .slice t x lo hi mx)
    (hk : stepK E (dOf o.dst) (.slice t x lo hi mx) s k) : o.wp P a w next Q := by
  simp only [stepK, stepB, sliceK] at hk
  cases mx with
  | some _ => exact hk.elim
  | none =>
    obtain ⟨ti, hti, hk⟩ := tiK_elim hk
    obtain ⟨d, hd, -, hds, hdt, -⟩ := (hE.ty _ _ hti).und
    have hx := ev_G hf x
    generalize hex : ev s x = p at hk hx
    generalize hax : a.eval x = vx at hx
    unfold cutK at hk
    cases hsl : ti.slice with
    | true =>
      rw [hsl] at hk
      obtain rfl := hds hsl
      obtain ⟨ui, hui, hk⟩ := tiK_elim hk
      obtain ⟨i, hi1, hi2, -⟩ := (hE.ty _ _ hui).inf
      have body : ∀ (X : Type) (z : Nat) (cs : X → List SV) (dd : X) (l : List X), G H β T (.row X z cs dd l) vx →
          (match Nat.beq z ui.size with | true => lowK (lo.map (ev s)) fun lo => cutRow l (hi.map (ev s)) lo fun l => k (.row X z cs dd l) s | false => False) → o.wp P a w next Q := by
        intro X z cs dd l hg hk
        cases hz : Nat.beq z ui.size with
        | false => rw [hz] at hk; exact hk.elim
        | true =>
          rw [hz] at hk
          obtain rfl := Nat.eq_of_beq_eq_true hz
          obtain ⟨il, hk, hil⟩ := lowK_elim (fun x => ev_G hf x) hk
          obtain ⟨hh, g1, g2, g3, hk, hih⟩ := cutRow_elim (fun x => ev_G hf x) hk
          obtain ⟨ad, n, c, rfl⟩ : ∃ ad n c, vx = .slice ad n c := by cases hg <;> exact ⟨_, _, _, rfl⟩
          obtain ⟨hp, hc, hl⟩ := G_part hg (lo := il.toNat) (hh := hh) (by omega) g3
          refine done_val hf hw hk hp hn ?_
          have hb := run_bounds (P := P) (w := w) true n c (lo.map a.eval) (hi.map a.eval) il.toNat hh (hil g1) (by rw [← hl]; exact hih) (by omega) hc
          unfold execOp
          simp only [ho, hax, Option.map_none, Instr.sliceAt, Instr.slice, Sem.run_bind, run_und hd, Result.andThen_ok, hb, run_size hi1, hi2, Sem.run_pure]
      cases p with
      | row X z cs dd l => exact body X z cs dd l hx hk
      | own X z cs dd l id => exact body X z cs dd l (hx.sub (.own ..)) hk
      | _ => exact hk.elim
    | false =>
      rw [hsl] at hk
      simp only at hk
      cases hst : ti.str with
      | false => rw [hst] at hk; exact hk.elim
      | true =>
        rw [hst] at hk
        obtain rfl := hdt hst
        cases p with
        | val v =>
          obtain rfl := gval hx
          cases vx with
          | string b =>
            simp only at hk
            obtain ⟨il, hk, hil⟩ := lowK_elim (fun x => ev_G hf x) hk
            obtain ⟨hh, g1, g2, g3, hk, hih⟩ := cutStr_elim (fun x => ev_G hf x) hk
            have hb := run_bounds (P := P) (w := w) false b.size b.size (lo.map a.eval) (hi.map a.eval) il.toNat hh (hil g1) hih (by omega) g3
            refine done_val hf hw hk (.val _) hn ?_
            unfold execOp
            simp only [ho, hax, Option.map_none, Instr.sliceAt, Instr.slice, Sem.run_bind, run_und hd, Result.andThen_ok, Option.isSome_none, Bool.false_eq_true, if_false, hb, Sem.run_pure]
          | _ => exact hk.elim
        | _ => exact hk.elim

/-- Every operation. -/
theorem convert_sound (hE : EnvOk P E) (hf : FR H β T s.fr a) (hw : W M w0 H0 H β T s.bx w) (hn : OnTo M w0 H0 a o.dst k next) (s1 t : TypeId) (x : Operand) (ho : o.op = .convert s1 t x)
    (hk : stepK E (dOf o.dst) (.convert s1 t x) s k) : o.wp P a w next Q := by
  have hx := ev_G hf x
  simp only [stepK, stepB] at hk
  generalize ev s x = p at hk hx
  obtain ⟨si, hsi, hk⟩ := tiK_elim hk
  obtain ⟨ti, hti, hk⟩ := tiK_elim hk
  obtain ⟨ds, hds, -⟩ := (hE.ty _ _ hsi).und
  cases hi : ti.int with
  | none => rw [hi] at hk; exact hk.elim
  | some kk =>
    rw [hi] at hk
    have hd := (hE.ty _ _ hti).int kk hi
    cases p with
    | val v =>
      cases v with
      | int k0 n =>
        have hv := gval hx
        refine done_val hf hw hk (.val _) hn ?_
        unfold execOp
        simp only [ho, hv, Sem.run_bind, Go.convert, run_und hds, run_und hd, Result.andThen_ok]
        cases ds <;> simp [Conv.intToInt]
      | _ => exact hk.elim
    | _ => exact hk.elim
theorem index_sound (hE : EnvOk P E) (hf : FR H β T s.fr a) (hw : W M w0 H0 H β T s.bx w) (hn : OnTo M w0 H0 a o.dst k next) (t : TypeId) (x i : Operand) (ho : o.op = .index t x i)
    (hk : stepK E (dOf o.dst) (.index t x i) s k) : o.wp P a w next Q := by
  have hx := ev_G hf x
  have hi := ev_G hf i
  simp only [stepK, stepB] at hk
  generalize ev s x = p at hk hx
  generalize ev s i = q at hk hi
  obtain ⟨ti, hti, hk⟩ := tiK_elim hk
  obtain ⟨d, hd, -, -, hst, -⟩ := (hE.ty _ _ hti).und
  cases hs : ti.str with
  | false => rw [hs] at hk; exact hk.elim
  | true =>
    rw [hs] at hk
    obtain rfl := hst hs
    cases p with
    | val v =>
      cases v with
      | string z =>
        cases q with
        | val u =>
          cases u with
          | int k0 n =>
            have hv := gval hx
            have hu := gval hi
            obtain ⟨⟨h0, h1⟩, hk⟩ := hk
            refine done_val hf hw hk (.val _) hn ?_
            unfold execOp
            have hlt : n.toNat < z.size := by omega
            have e1 : z[n.toNat]? = some z[n.toNat] := by simp [hlt]
            have e2 : z.data.getD n.toNat 0 = z[n.toNat] := by
              have hlt' : n.toNat < z.data.size := hlt
              simp only [Array.getD, dif_pos hlt']; rfl
            simp only [ho, hv, hu, Sem.run_bind, Instr.index, asIntOf, Sem.run_pure, run_und hd, Result.andThen_ok, if_pos h0, e1]
            simp [byteAt, e2]
          | _ => exact hk.elim
        | _ => exact hk.elim
      | _ => exact hk.elim
    | _ => exact hk.elim
theorem step_sound (hE : EnvOk P E) (hf : FR H β T s.fr a) (hw : W M w0 H0 H β T s.bx w) (hn : OnTo M w0 H0 a o.dst k next) (hk : stepK E (dOf o.dst) o.op s k) : o.wp P a w next Q := by
  generalize ho : o.op = op at hk
  cases op with
  | move x =>
    simp only [stepK, stepB, force_eq] at hk
    exact done_val hf hw hk (ev_G hf x) hn (by unfold execOp; simp [ho])
  | assign x =>
    simp only [stepK, stepB, force_eq] at hk
    exact done_val hf hw hk (ev_G hf x) hn (by unfold execOp; simp [ho])
  | pick c x y => exact pick_sound hf hw hn c x y ho hk
  | alloc t => exact alloc_sound hE hf hw hn t ho hk
  | box t x => exact box_sound hf hw hn t x ho hk
  | load t x => exact load_sound hE hf hw hn t x ho hk
  | store t x y => exact store_sound hE hf hw hn t x y ho hk
  | fieldAddr t x f => exact fieldAddr_sound hE hf hw hn t x f ho hk
  | field t x f => exact field_sound hE hf hw hn t x f ho hk
  | indexAddr t x i => exact indexAddr_sound hE hf hw hn t x i ho hk
  | binOp op t x y u => exact binOp_sound hE hf hw hn op t u x y ho hk
  | unOp op t x => exact unOp_sound hf hw hn op t x ho hk
  | extract x i => exact extract_sound hf hw hn x i ho hk
  | call c =>
    simp only [stepK, stepB] at hk
    cases hc : c.callee with
    | value f =>
      rw [hc] at hk
      simp only [callK] at hk
      cases hcf : ev s f with
      | fn g caps =>
        rw [hcf] at hk
        simp only at hk
        cases hct : E.ctr g with
        | none => rw [hct] at hk; exact hk.elim
        | some ct =>
          rw [hct] at hk
          simp only [forceL_eq] at hk
          rcases enterK_elim hk with ⟨_, x, h1, h2, h3, hk⟩ | ⟨_, tb, x, ht, h1, h2, h3, hsc, hk⟩
          · exact call_sound hE hf hw hn f g caps c ho hc hcf hct x h1 h2 h3 _ hk
          · exact lend_sound hE hf hw hn f g caps c ho hc hcf hct ht _ x h1 h2 h3 _ hsc hk
      | _ => rw [hcf] at hk; exact hk.elim
    | builtin b =>
      rw [hc] at hk
      generalize hargs : c.args.toList = l at hk
      cases b with
      | len =>
        cases l with
        | nil => exact hk.elim
        | cons x r =>
          cases r with
          | cons _ _ => exact hk.elim
          | nil => exact len_sound hE hf hw hn c ho hc x hargs hk
      | max =>
        cases l with
        | nil => exact hk.elim
        | cons x r =>
          cases r with
          | nil => exact hk.elim
          | cons y r =>
            cases r with
            | cons _ _ => exact hk.elim
            | nil =>
              simp only [callK, List.map] at hk
              generalize hex : ev s x = p at hk
              generalize hey : ev s y = q at hk
              cases p with
              | val v =>
                cases v with
                | int kk n =>
                  cases q with
                  | val v =>
                    cases v with
                    | int kk' m =>
                      simp only at hk
                      cases hik : ikEq kk kk' with
                      | false => rw [hik] at hk; exact hk.elim
                      | true =>
                        obtain rfl := ikEq_eq hik
                        rw [hik] at hk
                        exact max_sound hf hw hn c ho hc x y hargs kk n m hex hey hk
                    | _ => exact hk.elim
                  | _ => exact hk.elim
                | _ => exact hk.elim
              | _ => exact hk.elim
      | _ => exact hk.elim
    | invoke _ _ => rw [hc] at hk; exact hk.elim
  | build t parts => exact build_sound hE hf hw hn t parts ho hk
  | buildSlice t len parts => exact buildSlice_sound hE hf hw hn t len parts ho hk
  | slice t x lo hi mx => exact slice_sound hE hf hw hn t x lo hi mx ho hk
  | makeFunc f fs cs => exact makeFunc_sound hf hw hn f fs cs ho hk
  | convert s1 t x => exact convert_sound hE hf hw hn s1 t x ho hk
  | index t x i => exact index_sound hE hf hw hn t x i ho hk
  | _ => exact hk.elim
end
end Go.Proofs.Ytobadhbdhomjnaa.Ax
