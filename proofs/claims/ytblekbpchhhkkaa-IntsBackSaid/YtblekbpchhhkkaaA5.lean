/- Operators, calls, and every operation together. -/
import Derived.Test.YtblekbpchhhkkaaA4
import Derived.Laws.Small
set_option linter.unusedVariables false
set_option linter.unusedSimpArgs false
namespace Go.Proofs.Ytblekbpchhhkkaa.Ax
open Go Go.RowKit
section
variable {P : Program} {E : Env} {M : Nat → Prop} {w0 : World} {H0 : HM} {s : ASt} {a : Act} {w : World} {H : HM} {β : BM} {T : TM}
variable {k : SV → ASt → Prop} {next : Act → World → Prop} {Q : Exit → Act → World → Prop} {o : Oper}

theorem ikEq_eq {a b : IntKind} (h : ikEq a b = true) : a = b := by cases a <;> cases b <;> first | rfl | (simp [ikEq] at h; done)
theorem asB_elim {x : SV} {k : Bool → Prop} (h : asB x k) {H : HM} {β : BM} {T : TM} {v : Value} (hv : G H β T x v) : ∃ b, v = .bool b ∧ k b := by
  cases x with
  | tt => cases hv; exact ⟨true, rfl, h⟩
  | ff => cases hv; exact ⟨false, rfl, h⟩
  | val u => cases u <;> first | (cases hv; exact ⟨_, rfl, h⟩) | exact h.elim
  | _ => exact h.elim
theorem ofB_G (b : Bool) : G H β T (ofB b) (.bool b) := .val _

theorem gval {H : HM} {β : BM} {T : TM} {v u : Value} (h : G H β T (.val v) u) : u = v := by cases h; rfl

theorem binOp_sound (hE : EnvOk P E) (hf : FR H β T s.fr a) (hw : W M w0 H0 H β T s.bx w) (hn : OnTo M w0 H0 a o.dst k next) (op : BinOp) (t u : TypeId) (x y : Operand) (ho : o.op = .binOp op t x y u)
    (hk : stepK E (dOf o.dst) (.binOp op t x y u) s k) : o.wp P a w next Q := by
  have hx := ev_G hf x
  have hy := ev_G hf y
  simp only [stepK, stepB] at hk
  generalize hex : ev s x = p at hk hx
  generalize hax : a.eval x = vx at hx
  generalize hay : a.eval y = vy at hy
  have run : ∀ val : Value, (eqGuard op t x y vx vy).run P w = .ok () w → (Go.binOp op t vx vy).run P w = .ok val w → (execOp a.eval o).run P w = .ok (.value val) w := by
    intro val h1 h2
    unfold execOp
    simp only [ho, hax, hay, Sem.run_bind, Sem.run_pure, h1, h2, Result.andThen_ok]
  have bools : ∀ b : Bool, vx = .bool b → bool2 E t op b (ev s y) (fun v => k v s) → o.wp P a w next Q := by
    intro b hb hk
    obtain ⟨ti, hti, hk⟩ := tiK_elim hk
    obtain ⟨d, hd, -, -, -, hbool, -⟩ := (hE.ty _ _ hti).und
    cases hbb : ti.bool with
    | false => rw [hbb] at hk; exact hk.elim
    | true =>
      rw [hbb] at hk
      obtain rfl := hbool hbb
      obtain ⟨c, rfl, hk⟩ := asB_elim hk hy
      subst hb
      have g : (eqGuard op t x y (.bool b) (.bool c)).run P w = .ok () w := by
        unfold eqGuard; split <;> rfl
      cases op with
      | eql => exact done_val hf hw hk (ofB_G _) hn (run _ g (run_eql_bool w t b c hd))
      | neq => exact done_val hf hw hk (ofB_G _) hn (run _ g (run_neq_bool w t b c hd))
      | _ => exact hk.elim
  unfold binK at hk
  cases p with
  | tt => cases hx; exact bools true rfl hk
  | ff => cases hx; exact bools false rfl hk
  | agg l =>
    simp only at hk
    generalize hey : ev s y = q at hk hy
    cases q with
    | agg r =>
      simp only at hk
      cases hc : E.eqs t with
      | none => rw [hc] at hk; exact hk.elim
      | some c =>
        rw [hc] at hk
        obtain ⟨u1, v1, h1, h2, hk⟩ := hk
        obtain ⟨l1, s1⟩ := SubL_at h1
        obtain ⟨l2, s2⟩ := SubL_at h2
        cases hx with
        | agg _ xs hxn hxg =>
          cases hy with
          | agg _ ys hyn hyg =>
            obtain ⟨g, e⟩ := hE.eqs t c hc u1 v1 H β T xs ys w x y (by omega) (by omega) (fun j hj => (hxg j (by omega)).sub (s1 j hj)) (fun j hj => (hyg j (by omega)).sub (s2 j hj))
            cases op with
            | eql => exact done_val hf hw hk (ofB_G _) hn (run _ (g _) (by simp only [Go.binOp, Sem.run_bind, e, Result.andThen_ok, Sem.run_pure]))
            | neq => exact done_val hf hw hk (ofB_G _) hn (run _ (g _) (by simp only [Go.binOp, Sem.run_bind, e, Result.andThen_ok, Sem.run_pure]))
            | _ => exact hk.elim
    | _ => exact hk.elim
  | val v =>
    obtain rfl := gval hx
    cases vx with
    | bool b => exact bools b rfl hk
    | int kk n =>
      simp only at hk
      generalize hey : ev s y = q at hk hy
      cases q with
      | val v =>
        obtain rfl := gval hy
        cases vy with
        | int kk' m =>
          simp only at hk
          cases hik : ikEq kk kk' with
          | false => rw [hik] at hk; exact hk.elim
          | true =>
            obtain rfl := ikEq_eq hik
            rw [hik] at hk
            simp only at hk
            have g : (eqGuard op t x y (.int kk n) (.int kk m)).run P w = .ok () w := by
              unfold eqGuard; split <;> rfl
            cases op <;> simp only [intBin] at hk <;> first
              | exact hk.elim
              | (obtain ⟨h0, hk⟩ := hk; exact done_val hf hw hk (.val _) hn (run _ g (by simp [Go.binOp, Op.intDiv, h0])))
              | exact done_val hf hw hk (.val _) hn (run _ g (by simp [Go.binOp, Op.intArith, Op.intCmp, ofB]))
        | _ => exact hk.elim
      | _ => exact hk.elim
    | string n =>
      simp only at hk
      generalize hey : ev s y = q at hk hy
      cases q with
      | val v =>
        obtain rfl := gval hy
        cases vy with
        | string m =>
          simp only at hk
          have g : (eqGuard op t x y (.string n) (.string m)).run P w = .ok () w := by
            unfold eqGuard; split <;> rfl
          cases op <;> simp only [strBin] at hk <;> first
            | exact hk.elim
            | (obtain ⟨h0, hk⟩ := hk; refine done_val hf hw hk (.val _) hn (run _ g ?_); simp only [Go.binOp, Op.stringOp]; rw [if_neg (by simp only [IntKind.max, IntKind.bits, IntKind.signed]; simp; omega)]; rfl)
            | exact done_val hf hw hk (.val _) hn (run _ g (by simp [Go.binOp, Op.stringOp, ofB]))
        | _ => exact hk.elim
      | _ => exact hk.elim
    | _ => exact hk.elim
  | _ => exact hk.elim

theorem unOp_sound (hf : FR H β T s.fr a) (hw : W M w0 H0 H β T s.bx w) (hn : OnTo M w0 H0 a o.dst k next) (op : UnOp) (t : TypeId) (x : Operand) (ho : o.op = .unOp op t x)
    (hk : stepK E (dOf o.dst) (.unOp op t x) s k) : o.wp P a w next Q := by
  have hx := ev_G hf x
  simp only [stepK, stepB] at hk
  generalize hex : ev s x = p at hk hx
  generalize hax : a.eval x = vx at hx
  have run : ∀ val : Value, (Op.unary op vx).run P w = .ok val w → (execOp a.eval o).run P w = .ok (.value val) w := by
    intro val h2
    unfold execOp
    simp only [ho, hax, Sem.run_bind, Sem.run_pure, h2, Result.andThen_ok]
  cases op with
  | not =>
    simp only [unK] at hk
    cases p with
    | tt => cases hx; exact done_val hf hw hk .ff hn (run _ (by simp [Op.unary]))
    | ff => cases hx; exact done_val hf hw hk .tt hn (run _ (by simp [Op.unary]))
    | val v =>
      obtain rfl := gval hx
      cases vx <;> first
        | exact hk.elim
        | exact done_val hf hw hk (ofB_G _) hn (run _ (by simp [Op.unary]))
    | _ => exact hk.elim
  | neg =>
    simp only [unK] at hk
    cases p with
    | val v =>
      obtain rfl := gval hx
      cases vx <;> first
        | exact hk.elim
        | exact done_val hf hw hk (.val _) hn (run _ (by simp [Op.unary, Op.intArith]))
    | _ => exact hk.elim
  | _ => exact hk.elim

/-- the value of a function's own contract -/
theorem call_sound (hE : EnvOk P E) (hf : FR H β T s.fr a) (hw : W M w0 H0 H β T s.bx w) (hn : OnTo M w0 H0 a o.dst k next) (g : FuncId) (c : Call) (ho : o.op = .call c) (hc : c.callee = .value (.func g))
    {ct : Ctr} (hct : E.ctr g = some ct) (x : ct.A) (hs : SubL (c.args.toList.map (ev s)) (ct.enc x)) (hi : imm.imms (ct.enc x) = true) (hd : ct.dom x) (id : Nat) (hk : k (ct.res x id) s) : o.wp P a w next Q := by
  obtain ⟨⟨fn, hfn, hname, hbody⟩, hsound⟩ := hE.ctr g ct hct
  obtain ⟨hlen, hsub⟩ := SubL_at hs
  have hargs : ∀ j, j < (ct.enc x).length → G H noB noT (at' (ct.enc x) j .junk) ((c.args.map a.eval).getD j undef) := by
    intro j hj
    have hjl : j < c.args.size := by simp at hlen; omega
    have h1 := (ev_G hf c.args[j]).sub (by
      have := hsub j hj
      rwa [at'_get _ _ _ (by simpa using hjl), List.getElem_map, Array.getElem_toList] at this)
    have h2 := h1.imm (imms_at hi j hj) noB noT
    have e : (c.args.map a.eval).getD j undef = a.eval c.args[j] := by simp [Array.getD, hjl]
    rw [e]; exact h2
  have hcalls := hsound x H w (c.args.map a.eval) id hd (fun b q v e => (hw.lies b q v e).1) (by simp at hlen ⊢; omega) hargs
  have hrun : (execOp a.eval o).run P w = .ok (.enter g (c.args.map a.eval)) w := by
    unfold execOp
    obtain ⟨callee, args, argTypes⟩ := c
    simp only at hc
    subst hc
    simp only [ho, resolve, Act.eval, Deferred.ofValue, Sem.run_bind, Sem.run_pure, Result.andThen_ok, invoke, callFunc, run_program, hfn]
    simp [hname, hbody]
  unfold Oper.wp
  rw [hrun]
  simp only [Oper.upon]
  refine hcalls.mono ?_
  rintro e w' ⟨v, H', T', rfl, hb, hH, hold, hT', hseal, hg⟩
  have hcell : ∀ b q v, w.cell? ⟨b, q, none⟩ = some v → w'.cell? ⟨b, q, none⟩ = some v := fun b q v e => by
    rw [hb.cell (p := ⟨b, q, none⟩) (cell_lt e)]; exact e
  have hfro : ∀ b q, b < w.heap.size → w'.frozen? ⟨b, q, none⟩ = w.frozen? ⟨b, q, none⟩ := fun b q e => hb.frozen (p := ⟨b, q, none⟩) e
  let T2 : TM := fun b q => if b < w.heap.size then T b q else T' b q
  have hTl : TLe T T2 := fun b q i e => by
    obtain ⟨_, h2, _⟩ := hw.tail _ _ _ e
    obtain ⟨u, hu⟩ := Option.isSome_iff_exists.1 h2
    show (if b < w.heap.size then T b q else T' b q) = some i
    rw [if_pos (cell_lt hu)]; exact e
  have hTr : TLe T' T2 := fun b q i e => by
    show (if b < w.heap.size then T b q else T' b q) = some i
    rw [if_neg (by have := (hT' _ _ _ e).1; omega)]; exact e
  refine hn _ _ v H' β T2 w' hk (hf.mono hH (.refl _) hTl) ?_ (hg.mono (.refl _) (noB_le _) hTr)
  refine ⟨?_, ?_, ?_, hw.inj, ?_, hw.keep.below hb, hw.ext.trans hH, ?_⟩
  · intro b q u e
    refine ⟨(hseal b q u e).1, ?_⟩
    show (if b < w.heap.size then T b q else T' b q) = none
    by_cases hlt : b < w.heap.size
    · rw [if_pos hlt]; rw [hold b q hlt] at e; exact (hw.lies b q u e).2
    · rw [if_neg hlt]; exact (hseal b q u e).2
  · intro id' cs e
    obtain ⟨kk, hkk, hm, hj⟩ := hw.box id' cs e
    refine ⟨kk, hkk, hm, fun j hlt => ?_⟩
    obtain ⟨a1, a2, a3, u, a4, a5⟩ := hj j hlt
    have hkl := cell_lt a4
    refine ⟨by rw [hold _ _ hkl]; exact a1, ?_, by rw [hfro _ _ hkl]; exact a3, u, hcell _ _ _ a4, a5.mono hH (.refl _) hTl⟩
    show (if kk < w.heap.size then T kk j else T' kk j) = none
    rw [if_pos hkl]; exact a2
  · intro id' kk e
    obtain ⟨a1, a2⟩ := hw.bβ id' kk e
    exact ⟨Nat.lt_of_lt_of_le a1 hb.size, a2⟩
  · intro b q i e
    replace e : (if b < w.heap.size then T b q else T' b q) = some i := e
    by_cases hlt : b < w.heap.size
    · rw [if_pos hlt] at e
      obtain ⟨a1, a2, a3⟩ := hw.tail b q i e
      obtain ⟨u, hu⟩ := Option.isSome_iff_exists.1 a2
      exact ⟨a1, by rw [hcell _ _ _ hu]; rfl, by rw [hfro _ _ hlt]; exact a3⟩
    · rw [if_neg hlt] at e
      obtain ⟨a1, a2, a3⟩ := hT' b q i e
      exact ⟨.inr (Nat.le_trans hw.keep.size a1), a2, a3⟩
  · intro b q hm
    have hlt : b < w.heap.size := by
      have : ¬ w0.heap.size ≤ b := fun c => hm (.inr c)
      have := hw.keep.size
      omega
    rw [hold b q hlt]
    exact hw.fresh b q hm

theorem len_sound (hE : EnvOk P E) (hf : FR H β T s.fr a) (hw : W M w0 H0 H β T s.bx w) (hn : OnTo M w0 H0 a o.dst k next) (c : Call) (ho : o.op = .call c) (hc : c.callee = .builtin .len)
    (x : Operand) (hx : c.args.toList = [x]) (hk : lenTK E c.argTypes.toList (ev s x) fun v => k v s) : o.wp P a w next Q := by
  obtain ⟨callee, ⟨args⟩, ⟨l⟩⟩ := c
  simp only at hc hx hk
  subst hc hx
  cases l with
  | nil => exact hk.elim
  | cons t r =>
    cases r with
    | cons _ _ => exact hk.elim
    | nil =>
      obtain ⟨ti, hti, hk⟩ := tiK_elim hk
      obtain ⟨d, hd, -, hsl, hstr, -⟩ := (hE.ty _ _ hti).und
      have hxg := ev_G hf x
      generalize hex : ev s x = p at hk hxg
      generalize hax : a.eval x = vx at hxg
      have run : ∀ n : Int, (Builtin.len_ #[t] o.type #[vx]).run P w = .ok (.int .i64 n) w → (execOp a.eval o).run P w = .ok (.value (.int .i64 n)) w := by
        intro n h
        unfold execOp
        simp only [ho, resolve, Sem.run_bind, Sem.run_pure, Result.andThen_ok, invoke, builtin]
        rw [show (Array.map a.eval ⟨[x]⟩) = #[vx] from by simp [hax], h]
        rfl
      have slc : ∀ (ad : Option Addr) (n c : Nat), vx = .slice ad n c → d = .slice ti.elem → k (.val (.int .i64 n)) s → o.wp P a w next Q := by
        intro ad n c h1 h2 hk
        subst h1 h2
        exact done_val hf hw hk (.val _) hn (run _ (by simp [Builtin.len_, run_und hd, goInt]))
      cases hs : ti.slice with
      | true =>
        rw [hs] at hk
        simp only at hk
        unfold lenK at hk
        have h := hsl hs
        cases p with
        | row X z cs dd l => cases hxg <;> exact slc _ _ _ rfl h hk
        | own X z cs dd l id => cases hxg <;> exact slc _ _ _ rfl h hk
        | arr b z n => cases hxg; exact slc _ _ _ rfl h hk
        | val v =>
          obtain rfl := gval hxg
          cases vx with
          | slice ad n c =>
            cases ad with
            | some _ => exact hk.elim
            | none =>
              cases n with
              | zero => exact slc _ _ _ rfl h hk
              | succ n => exact hk.elim
          | _ => exact hk.elim
        | _ => exact hk.elim
      | false =>
        rw [hs] at hk
        simp only at hk
        cases ht : ti.str with
        | false => rw [ht] at hk; exact hk.elim
        | true =>
          rw [ht] at hk
          obtain rfl := hstr ht
          cases p with
          | val v =>
            obtain rfl := gval hxg
            cases vx with
            | string n => exact done_val hf hw hk (.val _) hn (run _ (by simp [Builtin.len_, run_und hd, goInt]))
            | _ => exact hk.elim
          | _ => exact hk.elim

theorem max_sound (hf : FR H β T s.fr a) (hw : W M w0 H0 H β T s.bx w) (hn : OnTo M w0 H0 a o.dst k next) (c : Call) (ho : o.op = .call c) (hc : c.callee = .builtin .max)
    (x y : Operand) (hx : c.args.toList = [x, y]) (kk : IntKind) (n m : Int) (hex : ev s x = .val (.int kk n)) (hey : ev s y = .val (.int kk m)) (hk : k (.val (.int kk (if n < m then m else n))) s) : o.wp P a w next Q := by
  obtain ⟨callee, ⟨args⟩, l⟩ := c
  simp only at hc hx
  subst hc hx
  have h1 := ev_G hf x
  have h2 := ev_G hf y
  rw [hex] at h1
  rw [hey] at h2
  have e1 := gval h1
  have e2 := gval h2
  refine done_val hf hw hk (.val _) hn ?_
  unfold execOp
  simp only [ho, resolve, Sem.run_bind, Sem.run_pure, Result.andThen_ok, invoke, builtin]
  rw [show (Array.map a.eval ⟨[x, y]⟩) = #[.int kk n, .int kk m] from by simp [e1, e2]]
  simp [Builtin.max_, Builtin.max2]

/-- Every operation. -/
theorem step_sound (hE : EnvOk P E) (hf : FR H β T s.fr a) (hw : W M w0 H0 H β T s.bx w) (hn : OnTo M w0 H0 a o.dst k next) (hk : stepK E (dOf o.dst) o.op s k) : o.wp P a w next Q := by
  generalize ho : o.op = op at hk
  cases op with
  | move x =>
    simp only [stepK, stepB, force_eq] at hk
    exact done_val hf hw hk (ev_G hf x) hn (by unfold execOp; simp [ho])
  | assign x =>
    simp only [stepK, stepB, force_eq] at hk
    exact done_val hf hw hk (ev_G hf x) hn (by unfold execOp; simp [ho])
  | pick c x y => exact pick_sound hf hw hn c x y ho hk
  | alloc t => exact alloc_sound hE hf hw hn t ho hk
  | box t x => exact box_sound hf hw hn t x ho hk
  | load t x => exact load_sound hE hf hw hn t x ho hk
  | store t x y => exact store_sound hE hf hw hn t x y ho hk
  | fieldAddr t x f => exact fieldAddr_sound hE hf hw hn t x f ho hk
  | field t x f => exact field_sound hE hf hw hn t x f ho hk
  | indexAddr t x i => exact indexAddr_sound hE hf hw hn t x i ho hk
  | binOp op t x y u => exact binOp_sound hE hf hw hn op t u x y ho hk
  | unOp op t x => exact unOp_sound hf hw hn op t x ho hk
  | extract x i => exact extract_sound hf hw hn x i ho hk
  | call c =>
    simp only [stepK, stepB] at hk
    cases hc : c.callee with
    | value f =>
      rw [hc] at hk
      cases f with
      | func g =>
        simp only [callK] at hk
        cases hct : E.ctr g with
        | none => rw [hct] at hk; exact hk.elim
        | some ct =>
          rw [hct] at hk
          obtain ⟨x, h1, h2, h3, hk⟩ := hk
          rw [force_eq] at hk
          exact call_sound hE hf hw hn g c ho hc hct x h1 h2 h3 _ hk
      | _ => exact hk.elim
    | builtin b =>
      rw [hc] at hk
      generalize hargs : c.args.toList = l at hk
      cases b with
      | len =>
        cases l with
        | nil => exact hk.elim
        | cons x r =>
          cases r with
          | cons _ _ => exact hk.elim
          | nil => exact len_sound hE hf hw hn c ho hc x hargs hk
      | max =>
        cases l with
        | nil => exact hk.elim
        | cons x r =>
          cases r with
          | nil => exact hk.elim
          | cons y r =>
            cases r with
            | cons _ _ => exact hk.elim
            | nil =>
              simp only [callK, List.map] at hk
              generalize hex : ev s x = p at hk
              generalize hey : ev s y = q at hk
              cases p with
              | val v =>
                cases v with
                | int kk n =>
                  cases q with
                  | val v =>
                    cases v with
                    | int kk' m =>
                      simp only at hk
                      cases hik : ikEq kk kk' with
                      | false => rw [hik] at hk; exact hk.elim
                      | true =>
                        obtain rfl := ikEq_eq hik
                        rw [hik] at hk
                        exact max_sound hf hw hn c ho hc x y hargs kk n m hex hey hk
                    | _ => exact hk.elim
                  | _ => exact hk.elim
                | _ => exact hk.elim
              | _ => exact hk.elim
      | _ => exact hk.elim
    | invoke _ _ => rw [hc] at hk; exact hk.elim
  | _ => exact hk.elim
end
end Go.Proofs.Ytblekbpchhhkkaa.Ax
