/- Walks and laws, part 2: A5. -/
import Derived.Test.YteccinlmblijfaaPk1
import Derived.Laws.Tables
import Derived.Great.BuildSlice
import Derived.Laws.Slices
import Derived.ArgAppend
import Derived.Laws.Small
import Derived.Laws.MakeOwn
import Derived.Laws.BytesArg
import Derived.Lib.ConvBytes
/- Operators, calls, and every operation together. -/
set_option linter.unusedVariables false
set_option linter.unusedSimpArgs false
set_option linter.unusedSectionVars false
namespace Go.Proofs.Yteccinlmblijfaa.Ax
open Go Go.RowKit
section
variable {P : Program} {E : Env} {M : BM} {w0 : World} {H0 : HM} {s : ASt} {a : Act} {w : World} {H : HM} {β : BM} {T : TM}
variable {k : SV → ASt → Prop} {next : Act → World → Prop} {Q : Exit → Act → World → Prop} {o : Oper}

theorem ikEq_eq {a b : IntKind} (h : ikEq a b = true) : a = b := by cases a <;> cases b <;> first | rfl | (simp [ikEq] at h; done)
theorem asB_elim {x : SV} {k : Bool → Prop} (h : asB x k) {H : HM} {β : BM} {T : TM} {v : Value} (hv : G H β T x v) : ∃ b, v = .bool b ∧ k b := by
  cases x with
  | tt => cases hv; exact ⟨true, rfl, h⟩
  | ff => cases hv; exact ⟨false, rfl, h⟩
  | val u => cases u <;> first | (cases hv; exact ⟨_, rfl, h⟩) | exact h.elim
  | _ => exact h.elim
theorem ofB_G (b : Bool) : G H β T (ofB b) (.bool b) := .val _

theorem gval {H : HM} {β : BM} {T : TM} {v u : Value} (h : G H β T (.val v) u) : u = v := by cases h; rfl

theorem nilBin_elim {E : Env} {t : Nat} {op : BinOp} {e : Bool} {y : SV} {k : SV → Prop} (h : nilBin E t op e y k) :
    ∃ ti, (t, ti) ∈ E.ty ∧ ti.slice = true ∧ y = .val (.slice none 0 0) ∧ ((op = .eql ∧ k (.nb fun b => e = false → b = false)) ∨ (op = .neq ∧ k (.nb fun b => e = false → b = true))) := by
  obtain ⟨ti, hti, h⟩ := tiK_elim h
  cases hs : ti.slice with
  | false => rw [hs] at h; exact h.elim
  | true =>
    rw [hs] at h
    refine ⟨ti, hti, hs, ?_⟩
    cases y with
    | val v =>
      cases v with
      | slice a n c =>
        cases a with
        | some _ => exact h.elim
        | none =>
          cases n with
          | succ _ => exact h.elim
          | zero =>
            cases c with
            | succ _ => exact h.elim
            | zero =>
              refine ⟨rfl, ?_⟩
              cases op with
              | eql => exact .inl ⟨rfl, h⟩
              | neq => exact .inr ⟨rfl, h⟩
              | _ => exact h.elim
      | _ => exact h.elim
    | _ => exact h.elim
theorem binOp_sound (hE : EnvOk P E) (hf : FR H β T s.fr a) (hw : W M w0 H0 H β T s.bx w) (hn : OnTo M w0 H0 a o.dst k next) (op : BinOp) (t u : TypeId) (x y : Operand) (ho : o.op = .binOp op t x y u)
    (hk : stepK E (dOf o.dst) (.binOp op t x y u) s k) : o.wp P a w next Q := by
  have hx := ev_G hf x
  have hy := ev_G hf y
  simp only [stepK, stepB] at hk
  generalize hex : ev s x = p at hk hx
  generalize hax : a.eval x = vx at hx
  generalize hay : a.eval y = vy at hy
  have run : ∀ val : Value, (eqGuard op t x y vx vy).run P w = .ok () w → (Go.binOp op t vx vy).run P w = .ok val w → (execOp a.eval o).run P w = .ok (.value val) w := by
    intro val h1 h2
    unfold execOp
    simp only [ho, hax, hay, Sem.run_bind, Sem.run_pure, h1, h2, Result.andThen_ok]
  have bools : ∀ b : Bool, vx = .bool b → bool2 E t op b (ev s y) (fun v => k v s) → o.wp P a w next Q := by
    intro b hb hk
    obtain ⟨ti, hti, hk⟩ := tiK_elim hk
    obtain ⟨d, hd, -, -, -, hbool, -⟩ := (hE.ty _ _ hti).und
    cases hbb : ti.bool with
    | false => rw [hbb] at hk; exact hk.elim
    | true =>
      rw [hbb] at hk
      obtain rfl := hbool hbb
      obtain ⟨c, rfl, hk⟩ := asB_elim hk hy
      subst hb
      have g : (eqGuard op t x y (.bool b) (.bool c)).run P w = .ok () w := by
        unfold eqGuard; split <;> rfl
      cases op with
      | eql => exact done_val hf hw hk (ofB_G _) hn (run _ g (run_eql_bool w t b c hd))
      | neq => exact done_val hf hw hk (ofB_G _) hn (run _ g (run_neq_bool w t b c hd))
      | _ => exact hk.elim
  have nils : ∀ (e : Bool) (ad : Option Addr) (n c : Nat), vx = .slice ad n c → (e = false → ad.isSome = true) → nilBin E t op e (ev s y) (fun v => k v s) → o.wp P a w next Q := by
    intro e ad n c hv hne hk
    obtain ⟨ti, hti, hs, hy0, hk⟩ := nilBin_elim hk
    obtain ⟨d, hd, -, hsl, -⟩ := (hE.ty _ _ hti).und
    obtain rfl := hsl hs
    rw [hy0] at hy
    obtain rfl := gval hy
    subst hv
    have g : (eqGuard op t x y (.slice ad n c) (.slice none 0 0)).run P w = .ok () w := by
      unfold eqGuard; split <;> rfl
    have he : (Op.equal t (.slice ad n c) (.slice none 0 0)).run P w = .ok (!ad.isSome) w := by
      unfold Op.equal
      show (Op.equalIn (9999 + 1) t (.slice ad n c) (.slice none 0 0)).run P w = _
      unfold Op.equalIn
      rw [Sem.run_bind, run_und hd]
      cases ad <;> rfl
    rcases hk with ⟨rfl, hk2⟩ | ⟨rfl, hk2⟩
    · refine done_val hf hw hk2 (.nb (fun b => e = false → b = false) (!ad.isSome) (fun e' => ?_)) hn (run _ g (by simp only [Go.binOp, Sem.run_bind, he, Result.andThen_ok, Sem.run_pure]))
      rw [hne e']; rfl
    · refine done_val hf hw hk2 (.nb (fun b => e = false → b = true) (!!ad.isSome) (fun e' => ?_)) hn (run _ g (by simp only [Go.binOp, Sem.run_bind, he, Result.andThen_ok, Sem.run_pure]))
      rw [hne e']; rfl
  have g0 : ∀ x y : Operand, (isConst x || isConst y) = true → (eqGuard op t x y .nilIface .nilIface).run P w = .ok () w := by
    intro x y hc
    cases op <;> first | rfl | (cases x <;> cases y <;> first | rfl | (simp [isConst] at hc; done))
  have ifcs : ∀ b : Bool, (vx = .nilIface ∧ b = true ∧ (isConst x || isConst y) = true ∨ (∃ tx w, vx = .iface tx w) ∧ b = false) → ifcBin E t op b (ev s y) (fun v => k v s) → o.wp P a w next Q := by
    intro b hb hk
    obtain ⟨ti, hti, hk⟩ := tiK_elim hk
    cases hif : ti.iface with
    | false => rw [hif] at hk; exact hk.elim
    | true =>
      rw [hif] at hk
      simp only at hk
      obtain ⟨ms, hms⟩ := (hE.ty _ _ hti).ifc hif
      generalize hey : ev s y = q at hk hy
      cases q with
      | val v =>
        obtain rfl := gval hy
        cases vy with
        | nilIface =>
          have he : (Op.equal t vx .nilIface).run P w = .ok b w := by
            unfold Op.equal
            show (Op.equalIn (9999 + 1) t vx .nilIface).run P w = _
            unfold Op.equalIn
            rw [Sem.run_bind, run_und hms]
            rcases hb with ⟨rfl, rfl, -⟩ | ⟨⟨tx, w', rfl⟩, rfl⟩ <;> rfl
          have g : (eqGuard op t x y vx .nilIface).run P w = .ok () w := by
            rcases hb with ⟨rfl, rfl, hc⟩ | ⟨⟨tx, w', rfl⟩, rfl⟩
            · exact g0 x y hc
            · unfold eqGuard; split <;> rfl
          cases op with
          | eql => exact done_val hf hw hk (ofB_G _) hn (run _ g (by simp only [Go.binOp, Sem.run_bind, he, Result.andThen_ok, Sem.run_pure]))
          | neq => exact done_val hf hw hk (ofB_G _) hn (run _ g (by simp only [Go.binOp, Sem.run_bind, he, Result.andThen_ok, Sem.run_pure]))
          | _ => exact hk.elim
        | _ => exact hk.elim
      | _ => exact hk.elim
  unfold binK at hk
  cases p with
  | ifc =>
    cases hx with
    | ifc tx wx => exact ifcs false (.inr ⟨⟨tx, wx, rfl⟩, rfl⟩) hk
  | row X sz cs dd l =>
    cases hx with
    | rowE => exact nils true _ _ _ rfl (fun c => by cases c) hk
    | row _ _ _ _ _ b off c vs hc hz hh hg => exact nils _ _ _ _ rfl (fun _ => rfl) hk
  | own X sz cs dd l id =>
    cases hx with
    | ownE => exact nils true _ _ _ rfl (fun c => by cases c) hk
    | own _ _ _ _ _ _ b off c vs hc hz hh hg hT => exact nils _ _ _ _ rfl (fun _ => rfl) hk
  | tt => cases hx; exact bools true rfl hk
  | ff => cases hx; exact bools false rfl hk
  | agg l =>
    simp only at hk
    generalize hey : ev s y = q at hk hy
    cases q with
    | agg r =>
      simp only at hk
      cases hc : E.eqs t with
      | none => rw [hc] at hk; exact hk.elim
      | some c =>
        rw [hc] at hk
        obtain ⟨u1, v1, h1, h2, hk⟩ := hk
        obtain ⟨l1, s1⟩ := SubL_at h1
        obtain ⟨l2, s2⟩ := SubL_at h2
        cases hx with
        | agg _ xs hxn hxg =>
          cases hy with
          | agg _ ys hyn hyg =>
            obtain ⟨g, e⟩ := hE.eqs t c hc u1 v1 H β T xs ys w x y (by omega) (by omega) (fun j hj => (hxg j (by omega)).sub (s1 j hj)) (fun j hj => (hyg j (by omega)).sub (s2 j hj))
            cases op with
            | eql => exact done_val hf hw hk (ofB_G _) hn (run _ (g _) (by simp only [Go.binOp, Sem.run_bind, e, Result.andThen_ok, Sem.run_pure]))
            | neq => exact done_val hf hw hk (ofB_G _) hn (run _ (g _) (by simp only [Go.binOp, Sem.run_bind, e, Result.andThen_ok, Sem.run_pure]))
            | _ => exact hk.elim
    | _ => exact hk.elim
  | val v =>
    obtain rfl := gval hx
    cases vx with
    | bool b => exact bools b rfl hk
    | nilIface =>
      simp only at hk
      cases hc : (isConst x || isConst y) with
      | false => rw [hc] at hk; exact hk.elim
      | true => rw [hc] at hk; exact ifcs true (.inl ⟨rfl, rfl, hc⟩) hk
    | int kk n =>
      simp only at hk
      generalize hey : ev s y = q at hk hy
      cases q with
      | val v =>
        obtain rfl := gval hy
        cases vy with
        | int kk' m =>
          simp only at hk
          cases hik : ikEq kk kk' with
          | false => rw [hik] at hk; exact hk.elim
          | true =>
            obtain rfl := ikEq_eq hik
            rw [hik] at hk
            simp only at hk
            have g : (eqGuard op t x y (.int kk n) (.int kk m)).run P w = .ok () w := by
              unfold eqGuard; split <;> rfl
            cases op <;> simp only [intBin] at hk <;> first
              | exact hk.elim
              | (obtain ⟨h0, hk⟩ := hk; exact done_val hf hw hk (.val _) hn (run _ g (by simp [Go.binOp, Op.intDiv, h0])))
              | exact done_val hf hw hk (.val _) hn (run _ g (by simp [Go.binOp, Op.intArith, Op.intCmp, ofB]))
        | _ => exact hk.elim
      | _ => exact hk.elim
    | string n =>
      simp only at hk
      generalize hey : ev s y = q at hk hy
      cases q with
      | val v =>
        obtain rfl := gval hy
        cases vy with
        | string m =>
          simp only at hk
          have g : (eqGuard op t x y (.string n) (.string m)).run P w = .ok () w := by
            unfold eqGuard; split <;> rfl
          cases op <;> simp only [strBin] at hk <;> first
            | exact hk.elim
            | (obtain ⟨h0, hk⟩ := hk; refine done_val hf hw hk (.val _) hn (run _ g ?_); simp only [Go.binOp, Op.stringOp]; rw [if_neg (by simp only [IntKind.max, IntKind.bits, IntKind.signed]; simp; omega)]; rfl)
            | exact done_val hf hw hk (.val _) hn (run _ g (by simp [Go.binOp, Op.stringOp, ofB]))
        | _ => exact hk.elim
      | _ => exact hk.elim
    | _ => exact hk.elim
  | _ => exact hk.elim

theorem unOp_sound (hf : FR H β T s.fr a) (hw : W M w0 H0 H β T s.bx w) (hn : OnTo M w0 H0 a o.dst k next) (op : UnOp) (t : TypeId) (x : Operand) (ho : o.op = .unOp op t x)
    (hk : stepK E (dOf o.dst) (.unOp op t x) s k) : o.wp P a w next Q := by
  have hx := ev_G hf x
  simp only [stepK, stepB] at hk
  generalize hex : ev s x = p at hk hx
  generalize hax : a.eval x = vx at hx
  have run : ∀ val : Value, (Op.unary op vx).run P w = .ok val w → (execOp a.eval o).run P w = .ok (.value val) w := by
    intro val h2
    unfold execOp
    simp only [ho, hax, Sem.run_bind, Sem.run_pure, h2, Result.andThen_ok]
  cases op with
  | not =>
    simp only [unK] at hk
    cases p with
    | tt => cases hx; exact done_val hf hw hk .ff hn (run _ (by simp [Op.unary]))
    | ff => cases hx; exact done_val hf hw hk .tt hn (run _ (by simp [Op.unary]))
    | val v =>
      obtain rfl := gval hx
      cases vx <;> first
        | exact hk.elim
        | exact done_val hf hw hk (ofB_G _) hn (run _ (by simp [Op.unary]))
    | _ => exact hk.elim
  | neg =>
    simp only [unK] at hk
    cases p with
    | val v =>
      obtain rfl := gval hx
      cases vx <;> first
        | exact hk.elim
        | exact done_val hf hw hk (.val _) hn (run _ (by simp [Op.unary, Op.intArith]))
    | _ => exact hk.elim
  | _ => exact hk.elim

/-! ### Lending -/
theorem lendsW_length (f : Nat → Nat → SV) (g : Nat → Nat → Nat → Nat → SV) : ∀ l : List SV, (lendW.lendsW f g l).length = l.length
  | [] => rfl
  | x :: xs => by simp [lendW.lendsW, lendsW_length f g xs]
theorem lendsW_at (f : Nat → Nat → SV) (g : Nat → Nat → Nat → Nat → SV) : ∀ (l : List SV) (j : Nat), at' (lendW.lendsW f g l) j .junk = lendW f g (at' l j .junk)
  | [], _ => rfl
  | x :: xs, 0 => rfl
  | x :: xs, j + 1 => lendsW_at f g xs j
theorem gatherK_rel {bx bx' : Tr (Option (List SV))} (hle : ∀ id cs, bx.get id none = some cs → bx'.get id none = some cs) : ∀ (n : Nat) (ids : List Nat) (tb : List (Nat × List SV)) (k : List (Nat × List SV) → Prop),
    (∀ id cs, lookT tb id = some cs → bx.get id none = some cs) → gatherK bx n ids tb k →
    ∃ tb', k tb' ∧ (∀ id cs, lookT tb' id = some cs → bx.get id none = some cs) ∧ ∀ k' : List (Nat × List SV) → Prop, k' tb' → gatherK bx' n ids tb k'
  | 0, ids, tb, k, ht, h => ⟨tb, h, ht, fun _ h => h⟩
  | n + 1, [], tb, k, ht, h => ⟨tb, h, ht, fun _ h => h⟩
  | n + 1, id :: r, tb, k, ht, h => by
    unfold gatherK at h ⊢
    cases hb : bx.get id none with
    | none => rw [hb] at h; exact h.elim
    | some cs =>
      rw [hb] at h
      rw [hle _ _ hb]
      refine gatherK_rel hle n _ _ k (fun id' cs' e => ?_) h
      simp only [lookT] at e
      cases hq : Nat.beq id id' with
      | true =>
        rw [hq] at e
        cases e
        rw [← Nat.eq_of_beq_eq_true hq]; exact hb
      | false => rw [hq] at e; exact ht _ _ e
/-- each row of a kind that a value names is so -/
def allA (ok : Nat → Nat → Nat → Prop) : SV → Prop
  | .arr b _ o n _ => ok b o n
  | .agg l => allAs ok l
  | .tup l => allAs ok l
  | .fn _ l => allAs ok l
  | _ => True
where allAs (ok : Nat → Nat → Nat → Prop) : List SV → Prop
  | [] => True
  | x :: xs => allA ok x ∧ allAs ok xs
theorem allAs_at {ok : Nat → Nat → Nat → Prop} : ∀ {l : List SV}, allA.allAs ok l → ∀ j, allA ok (at' l j .junk)
  | [], _, _ => trivial
  | x :: xs, h, 0 => h.1
  | x :: xs, h, j + 1 => allAs_at h.2 j
def arrOk (tb : List (Nat × List SV)) (b o n : Nat) : Prop := ∀ X sz c d l, lookT tb b = some [.many X sz c d l] → o + n ≤ l.length
mutual
theorem arrC_elim {tb : List (Nat × List SV)} : ∀ (x : SV) {k : Prop}, arrC tb x k → allA (arrOk tb) x ∧ k
  | .arr b _ o n _, k, h => by
    have : arrOk tb b o n ∧ k := by
      unfold arrC at h
      cases hl : lookT tb b with
      | none => rw [hl] at h; exact ⟨(fun X sz c d l e => by rw [hl] at e; cases e), h⟩
      | some cs =>
        rw [hl] at h
        cases cs with
        | nil => exact ⟨(fun X sz c d l e => by rw [hl] at e; cases e), h⟩
        | cons c r =>
          cases c with
          | many T z cc dd l => exact ⟨(fun X sz c d l e => by rw [hl] at e; cases e; exact h.1), h.2⟩
          | _ => exact ⟨(fun X sz c d l e => by rw [hl] at e; cases e), h⟩
    exact this
  | .agg l, k, h => arrCs_elim l h
  | .tup l, k, h => arrCs_elim l h
  | .fn _ l, k, h => arrCs_elim l h
  | .val _, k, h => ⟨trivial, h⟩
  | .tt, k, h => ⟨trivial, h⟩
  | .ff, k, h => ⟨trivial, h⟩
  | .row .., k, h => ⟨trivial, h⟩
  | .own .., k, h => ⟨trivial, h⟩
  | .elt .., k, h => ⟨trivial, h⟩
  | .box .., k, h => ⟨trivial, h⟩
  | .plc .., k, h => ⟨trivial, h⟩
  | .many .., k, h => ⟨trivial, h⟩
  | .ifc, k, h => ⟨trivial, h⟩
  | .e0, k, h => ⟨trivial, h⟩
  | .nb _, k, h => ⟨trivial, h⟩
  | .junk, k, h => ⟨trivial, h⟩
theorem arrCs_elim {tb : List (Nat × List SV)} : ∀ (l : List SV) {k : Prop}, arrC.arrCs tb l k → allA.allAs (arrOk tb) l ∧ k
  | [], k, h => ⟨trivial, h⟩
  | x :: xs, k, h => by
    obtain ⟨h1, h2⟩ := arrC_elim x h
    obtain ⟨h3, h4⟩ := arrCs_elim xs h2
    exact ⟨⟨h1, h3⟩, h4⟩
end
theorem arrT_elim {tb : List (Nat × List SV)} : ∀ (r : List (Nat × List SV)) {k : Prop}, arrT tb r k → (∀ id cs, lookT r id = some cs → allA.allAs (arrOk tb) cs) ∧ k
  | [], k, h => ⟨(fun _ _ e => by cases e), h⟩
  | (i, cs) :: r, k, h => by
    obtain ⟨h1, h2⟩ := arrCs_elim cs h
    obtain ⟨h3, h4⟩ := arrT_elim r h2
    refine ⟨fun id ds e => ?_, h4⟩
    simp only [lookT] at e
    cases hq : Nat.beq i id with
    | true => rw [hq] at e; cases e; exact h1
    | false => rw [hq] at e; exact h3 _ _ e
mutual
theorem arrC_mono {tb : List (Nat × List SV)} : ∀ (x : SV) {k k' : Prop}, arrC tb x k → (k → k') → arrC tb x k'
  | .arr b _ o n _, k, k', h, hk => by
    unfold arrC at h ⊢
    cases hl : lookT tb b with
    | none => rw [hl] at h; exact hk h
    | some cs =>
      rw [hl] at h
      cases cs with
      | nil => exact hk h
      | cons c r =>
        cases c with
        | many T z cc dd l => exact ⟨h.1, hk h.2⟩
        | _ => exact hk h
  | .agg l, k, k', h, hk => arrCs_mono l h hk
  | .tup l, k, k', h, hk => arrCs_mono l h hk
  | .fn _ l, k, k', h, hk => arrCs_mono l h hk
  | .val _, k, k', h, hk => hk h
  | .tt, k, k', h, hk => hk h
  | .ff, k, k', h, hk => hk h
  | .row .., k, k', h, hk => hk h
  | .own .., k, k', h, hk => hk h
  | .elt .., k, k', h, hk => hk h
  | .box .., k, k', h, hk => hk h
  | .plc .., k, k', h, hk => hk h
  | .many .., k, k', h, hk => hk h
  | .ifc, k, k', h, hk => hk h
  | .e0, k, k', h, hk => hk h
  | .nb _, k, k', h, hk => hk h
  | .junk, k, k', h, hk => hk h
theorem arrCs_mono {tb : List (Nat × List SV)} : ∀ (l : List SV) {k k' : Prop}, arrC.arrCs tb l k → (k → k') → arrC.arrCs tb l k'
  | [], k, k', h, hk => hk h
  | x :: xs, k, k', h, hk => arrC_mono x h fun h => arrCs_mono xs h hk
end
theorem arrT_mono {tb : List (Nat × List SV)} : ∀ (r : List (Nat × List SV)) {k k' : Prop}, arrT tb r k → (k → k') → arrT tb r k'
  | [], k, k', h, hk => hk h
  | (i, cs) :: r, k, k', h, hk => arrCs_mono cs h fun h => arrT_mono r h hk
variable {bx : Tr (Option (List SV))} [GlOk E H0 w0]
/-- the sealed cells, and some variables -/
noncomputable def lent (S : Nat → Prop) (H : HM) (β : BM) (bx : Tr (Option (List SV))) (w : World) : HM := fun b q =>
  open Classical in if ∃ id cs, S id ∧ bx.get id none = some cs ∧ β id = some b ∧ q < xlen cs then w.cell? ⟨b, q, none⟩ else H b q
theorem lent_ext (S : Nat → Prop) (hw : W M w0 H0 H β T bx w) : HLe H (lent S H β bx w) := fun b q v e => by
  unfold lent
  split
  · rename_i h
    obtain ⟨id, cs, -, h1, h2, h3⟩ := h
    obtain ⟨k, hk, _, hj⟩ := hw.box id cs h1 (by omega)
    obtain rfl : b = k := Option.some.inj (h2.symm.trans hk)
    have := (hj q h3).1
    rw [e] at this; cases this
  · exact e
theorem lent_lies (S : Nat → Prop) (hw : W M w0 H0 H β T bx w) : ∀ b q v, lent S H β bx w b q = some v → w.cell? ⟨b, q, none⟩ = some v := fun b q v e => by
  unfold lent at e
  split at e
  · exact e
  · exact (hw.lies b q v e).1
/-- a lent cell is no room behind a row -/
theorem lent_T (S : Nat → Prop) (hw : W M w0 H0 H β T bx w) : ∀ b q v, lent S H β bx w b q = some v → T b q = none := fun b q v e => by
  unfold lent at e
  split at e
  · rename_i h
    obtain ⟨id, cs, -, h1, h2, h3⟩ := h
    obtain ⟨k, hk, _, hj⟩ := hw.box id cs h1 (by omega)
    obtain rfl : b = k := Option.some.inj (h2.symm.trans hk)
    exact (hj q h3).2.1
  · exact (hw.lies b q v e).2
theorem lendW_G {HL : HM} (hH : HLe H HL) (f : Nat → Nat → SV) (g : Nat → Nat → Nat → Nat → SV) (ok : Nat → Nat → Nat → Prop) {β : BM} {T : TM} {x : SV} {v : Value} (h : G H β T x v) :
    allA ok x → (∀ b o k, β b = some k → G HL noB noT (f b o) (.pointer (some ⟨k, o, none⟩))) → (∀ b z o n k c, ok b o n → β b = some k → n ≤ c → G HL noB noT (g b z o n) (.slice (some ⟨k, o * z, none⟩) n c)) →
    (∀ b z o a c, G HL noB noT (g b z o 0) (.slice a 0 c)) → G HL noB noT (lendW f g x) v := by
  induction h with
  | val v => intros; exact .val v
  | tt => intros; exact .tt
  | ff => intros; exact .ff
  | junk v => intros; exact .junk v
  | nb Q b h => intros; exact .nb Q b h
  | ifc t v => intros; exact .ifc t v
  | e0 a => intros; exact .e0 a
  | rowE => intros; exact .rowE ..
  | row X sz cs d l b off c vs hc hz hh hg ih => intros; exact .row X sz cs d l b off c vs hc hz (fun i j a e => hH _ _ _ (hh i j a e)) (fun i j a e => (hg i j a e).mono hH (.refl _) (.refl _))
  | ownE => intros; exact .rowE ..
  | own X sz cs d l id b off c vs hc hz hh hg hT ih => intros; exact .row X sz cs d l b off c vs hc hz (fun i j a e => hH _ _ _ (hh i j a e)) (fun i j a e => (hg i j a e).mono hH (.refl _) (.refl _))
  | elt X sz cs d l i o b p vs hz hh hg ih => intros; exact .elt X sz cs d l i o b p vs hz (fun j e => hH _ _ _ (hh j e)) (fun j e => (hg j e).mono hH (.refl _) (.refl _))
  | box b o k h => intro _ hf _ _; exact hf b o k h
  | arr b z o n cap k c h hc he => intro hok _ hg _; exact hg b z o n k c hok h hc
  | arrE b z o a c => intro _ _ _ he; exact he b z o a c
  | plc b z i o k hi h => intros; exact .junk _
  | agg l vs hn h ih => intro ha hf hg he; exact .agg _ vs (by rw [lendsW_length]; exact hn) fun j e => by rw [lendsW_at]; exact ih j (by rw [lendsW_length] at e; exact e) (allAs_at ha j) hf hg he
  | tup l vs hn h ih => intro ha hf hg he; exact .tup _ vs (by rw [lendsW_length]; exact hn) fun j e => by rw [lendsW_at]; exact ih j (by rw [lendsW_length] at e; exact e) (allAs_at ha j) hf hg he
  | fn g l vs hn h ih => intro ha hf hg he; exact .fn _ _ vs (by rw [lendsW_length]; exact hn) fun j e => by rw [lendsW_at]; exact ih j (by rw [lendsW_length] at e; exact e) (allAs_at ha j) hf hg he
theorem lendR_elim {tb : List (Nat × List SV)} {b z o n : Nat} : lendR tb b z o n = .junk ∨ ∃ X c d l, lookT tb b = some [.many X z c d l] ∧ lendR tb b z o n = .row X z c d ((l.drop o).take n) := by
  unfold lendR
  cases hl : lookT tb b with
  | none => exact .inl rfl
  | some cs =>
    simp only
    match cs with
    | [] => exact .inl rfl
    | [c] =>
      cases c with
      | many X sz c d l =>
        show (match Nat.beq z sz with | true => SV.row X sz c d ((l.drop o).take n) | false => .junk) = .junk ∨ _
        cases hz : Nat.beq z sz with
        | false => exact .inl rfl
        | true =>
          obtain rfl := Nat.eq_of_beq_eq_true hz
          refine .inr ⟨X, c, d, l, rfl, ?_⟩
          show (match Nat.beq z z with | true => SV.row X z c d ((l.drop o).take n) | false => .junk) = _
          rw [hz]
      | _ => exact .inl rfl
    | a :: b :: r => cases a <;> exact .inl rfl
theorem lendR_zero {HL : HM} (tb : List (Nat × List SV)) (b z o : Nat) (a : Option Addr) (c : Nat) : G HL noB noT (lendR tb b z o 0) (.slice a 0 c) := by
  rcases lendR_elim (tb := tb) (b := b) (z := z) (o := o) (n := 0) with e | ⟨X, cc, d, l, -, e⟩ <;> rw [e]
  · exact .junk _
  · rw [List.take_zero]; exact .rowE ..
theorem row_of_many {HL : HM} {X : Type} {z : Nat} {c : X → List SV} {d : X} {l : List X} (hz : ∀ x, (c x).length = z) (hi : ∀ x, imm.imms (c x) = true) {k o n cc : Nat} (hc : n ≤ cc) (hl : o + n ≤ l.length)
    (hcell : ∀ j, j < l.length * z → ∃ u, HL k j = some u ∧ ∃ (β : BM) (T : TM), G HL β T (xat [.many X z c d l] j) u) : G HL noB noT (.row X z c d ((l.drop o).take n)) (.slice (some ⟨k, o * z, none⟩) n cc) := by
  have hlen : ((l.drop o).take n).length = n := by simp; omega
  have hget : ∀ i, i < n → ((l.drop o).take n).getD i d = l.getD (o + i) d := by
    intro i hi
    simp [List.getElem?_take, hi, List.getElem?_drop]
  have key := G.row (H := HL) (β := noB) (T := noT) X z c d ((l.drop o).take n) k (o * z) cc (fun i j => (HL k (o * z + i * z + j)).getD undef) (by rw [hlen]; exact hc) (fun i _ => hz _) (fun i j hi' hj => ?_) (fun i j hi' hj => ?_)
  · rw [hlen] at key; exact key
  · rw [hlen] at hi'
    have : o * z + i * z + j = (o + i) * z + j := by rw [Nat.add_mul]
    obtain ⟨u, hu, -⟩ := hcell _ (show o * z + i * z + j < l.length * z by rw [this]; exact many_lt (by omega) hj)
    rw [hu]; rfl
  · rw [hlen] at hi'
    have : o * z + i * z + j = (o + i) * z + j := by rw [Nat.add_mul]
    obtain ⟨u, hu, β, T, hg⟩ := hcell _ (show o * z + i * z + j < l.length * z by rw [this]; exact many_lt (by omega) hj)
    rw [hu, hget i hi']
    rw [this, xat_many _ _ hj] at hg
    exact hg.imm (imms_at (hi _) j (by rw [hz]; exact hj)) noB noT
theorem lend_G (hw : W M w0 H0 H β T bx w) {tb : List (Nat × List SV)} {S : Nat → Prop} (hS : ∀ id cs, lookT tb id = some cs → S id) (ht : ∀ id cs, lookT tb id = some cs → bx.get id none = some cs) (hok : ∀ id cs, lookT tb id = some cs → allA.allAs (arrOk tb) cs) :
    ∀ (n : Nat) {x : SV} {v : Value}, allA (arrOk tb) x → G H β T x v → G (lent S H β bx w) noB noT (lendW (lendB tb n) (lendR tb) x) v := by
  have hlc : ∀ b cs k, lookT tb b = some cs → β b = some k → ∀ j, j < xlen cs → ∃ u, lent S H β bx w k j = some u ∧ G H β T (xat cs j) u := by
    intro b cs k hb hk j hj
    have hb' := ht _ _ hb
    obtain ⟨k', hk', _, hjj⟩ := hw.box b cs hb' (by omega)
    obtain rfl : k = k' := Option.some.inj (hk.symm.trans hk')
    obtain ⟨_, _, _, u, hu, hg⟩ := hjj j hj
    refine ⟨u, ?_, hg⟩
    unfold lent
    rw [if_pos ⟨b, cs, hS _ _ hb, hb', hk, hj⟩, hu]
  have hR : ∀ b z o n k c, arrOk tb b o n → β b = some k → n ≤ c → G (lent S H β bx w) noB noT (lendR tb b z o n) (.slice (some ⟨k, o * z, none⟩) n c) := by
    intro b z o n k c hok hk hc
    rcases lendR_elim (tb := tb) (b := b) (z := z) (o := o) (n := n) with e | ⟨X, cc, d, l, hl, e⟩ <;> rw [e]
    · exact .junk _
    · obtain ⟨-, hzz⟩ := hw.many _ _ _ _ _ _ (ht _ _ hl)
      refine row_of_many (fun x => (hzz x).1) (fun x => (hzz x).2.1) hc (hok _ _ _ _ _ hl) fun j hj => ?_
      obtain ⟨u, hu, hg⟩ := hlc b _ k hl hk j hj
      exact ⟨u, hu, β, T, hg.mono (lent_ext S hw) (.refl _) (.refl _)⟩
  intro n
  induction n with
  | zero => intro x v ha h; exact lendW_G (lent_ext S hw) _ _ (arrOk tb) h ha (fun b o k _ => .junk _) hR (fun b z o a c => lendR_zero tb b z o a c)
  | succ n ih =>
    intro x v ha h
    refine lendW_G (lent_ext S hw) _ _ (arrOk tb) h ha (fun b o k hk => ?_) hR (fun b z o a c => lendR_zero tb b z o a c)
    show G _ _ _ (match lookT tb b with | some cs => (match plain cs with | true => SV.elt Unit cs.length (fun _ => lendW.lendsW (lendB tb n) (lendR tb) cs) () [()] 0 o | false => .junk) | none => .junk) _
    cases hb : lookT tb b with
    | none => exact .junk _
    | some cs =>
      simp only
      cases hpl : plain cs with
      | false => exact .junk _
      | true =>
      have hxl := (xlen_plain hpl).1
      have := G.elt (H := lent S H β bx w) (β := noB) (T := noT) Unit cs.length (fun _ => lendW.lendsW (lendB tb n) (lendR tb) cs) () [()] 0 o k 0 (fun j => (lent S H β bx w k j).getD undef)
        (lendsW_length _ _ _) (fun j hjl => by
          obtain ⟨u, hu, _⟩ := hlc b cs k hb hk j (by omega)
          rw [Nat.zero_add, hu]; rfl) (fun j hjl => by
          obtain ⟨u, hu, hg⟩ := hlc b cs k hb hk j (by omega)
          rw [lendsW_at, hu]
          rw [xat_plain hpl] at hg
          exact ih (allAs_at (hok _ _ hb) j) hg)
      simpa using this
theorem scals_at {l : List SV} (h : scal.scals l = true) : ∀ j, j < l.length → scal (at' l j .junk) = true := by
  induction l with
  | nil => intro j hj; simp at hj
  | cons x xs ih =>
    intro j hj
    unfold scal.scals at h
    cases hx : scal x with
    | false => rw [hx] at h; simp at h
    | true =>
      rw [hx] at h
      cases j with
      | zero => exact hx
      | succ j => exact ih h j (by simpa using hj)
theorem G.scal {H : HM} {β : BM} {T : TM} {s : SV} {v : Value} (h : G H β T s v) : Ax.scal s = true → ∀ (H' : HM) (β' : BM) (T' : TM), G H' β' T' s v := by
  induction h with
  | val v => intros; exact .val v
  | tt => intros; exact .tt
  | ff => intros; exact .ff
  | junk v => intros; exact .junk v
  | nb Q b h => intros; exact .nb Q b h
  | ifc t v => intros; exact .ifc t v
  | agg l vs hn h ih => intro hi H' β' T'; exact .agg l vs hn fun j e => ih j e (scals_at (by simpa [Ax.scal] using hi) j e) H' β' T'
  | tup l vs hn h ih => intro hi H' β' T'; exact .tup l vs hn fun j e => ih j e (scals_at (by simpa [Ax.scal] using hi) j e) H' β' T'
  | _ => intro hi; simp [Ax.scal] at hi

/-- what is handed to a function, and that the call enters it -/
theorem call_enters (hf : FR H β T s.fr a) (f : Operand) (g : FuncId) (caps : List SV) (c : Call) (ho : o.op = .call c) (hc : c.callee = .value f)
    (hcf : ev s f = .fn g caps) {fn : Func} (hfn : P.funcs[g]? = some fn) (hname : (fn.name == "runtime.NumGoroutine") = false) (hbody : fn.body.isNone = false) :
    ∃ vs : Array Value, vs.size = (c.args.toList.map (ev s) ++ caps).length ∧ (∀ j, j < (c.args.toList.map (ev s) ++ caps).length → G H β T (at' (c.args.toList.map (ev s) ++ caps) j .junk) (vs.getD j undef)) ∧
      (execOp a.eval o).run P w = .ok (.enter g vs) w := by
  have hfn2 := ev_G hf f
  rw [hcf] at hfn2
  generalize hfv : a.eval f = fv at hfn2
  cases hfn2 with
  | fn _ _ vs hvn hvg =>
  refine ⟨c.args.map a.eval ++ vs, by simp; omega, ?_, ?_⟩
  · intro j hj
    have hjl : j < c.args.size + caps.length := by simp at hj; omega
    rw [at'_get _ _ _ (by simpa using hjl), List.getElem_append]
    by_cases hja : j < c.args.size
    · rw [dif_pos (by simpa using hja), List.getElem_map, Array.getElem_toList]
      have e : (c.args.map a.eval ++ vs).getD j undef = a.eval c.args[j] := by
        rw [Array.getD_eq_getD_getElem?, Array.getElem?_append_left (by simpa using hja)]
        simp [hja]
      rw [e]; exact ev_G hf _
    · rw [dif_neg (by simpa using hja)]
      have hk' : j - c.args.size < caps.length := by omega
      have e : (c.args.map a.eval ++ vs).getD j undef = vs.getD (j - c.args.size) undef := by
        rw [Array.getD_eq_getD_getElem?, Array.getElem?_append_right (by simpa using hja), Array.getD_eq_getD_getElem?]
        simp
      rw [e]
      have := hvg (j - c.args.size) hk'
      rw [at'_get _ _ _ hk'] at this
      simpa using this
  · unfold execOp
    obtain ⟨callee, args, argTypes⟩ := c
    simp only at hc
    subst hc
    simp only [ho, resolve, hfv, Deferred.ofValue, Sem.run_bind, Sem.run_pure, Result.andThen_ok, invoke, callFunc, run_program, hfn]
    simp [hname, hbody]
/-- a call of a function that only reads what it is handed -/
theorem lend_sound (hE : EnvOk P E) (hf : FR H β T s.fr a) (hw : W M w0 H0 H β T s.bx w) (hn : OnTo M w0 H0 a o.dst k next) (f : Operand) (g : FuncId) (caps : List SV) (c : Call) (ho : o.op = .call c) (hc : c.callee = .value f)
    (hcf : ev s f = .fn g caps) {ct : Ctr} (hct : E.ctr g = some ct) {tb : List (Nat × List SV)} (ht : ∀ id cs, lookT tb id = some cs → s.bx.get id none = some cs) (ha1 : allA.allAs (arrOk tb) (c.args.toList.map (ev s) ++ caps)) (ha2 : ∀ id cs, lookT tb id = some cs → allA.allAs (arrOk tb) cs)
    (n : Nat) (x : ct.A) (hs : SubL (lendW.lendsW (lendB tb n) (lendR tb) (c.args.toList.map (ev s) ++ caps)) (ct.enc x)) (hi : imm.imms (ct.enc x) = true) (hd : ct.dom x) (id : Nat)
    (hsc : ct.fresh = true ∨ scal (ct.res x id) = true) (hk : k (ct.res x id) s) : o.wp P a w next Q := by
  obtain ⟨⟨fn, hfn, hname, hbody⟩, hsound⟩ := hE.ctr g ct hct
  obtain ⟨hlen, hsub⟩ := SubL_at hs
  obtain ⟨vs, hvn, hvg, hrun⟩ := call_enters (w := w) (P := P) hf f g caps c ho hc hcf hfn hname hbody
  rw [lendsW_length] at hlen
  let S : Nat → Prop := fun _ => True
  have hargs : ∀ j, j < (ct.enc x).length → G (lent S H β s.bx w) noB noT (at' (ct.enc x) j .junk) (vs.getD j undef) := by
    intro j hj
    have h1 := lend_G hw (S := S) (fun _ _ _ => trivial) ht ha2 n (allAs_at ha1 j) (hvg j (by omega))
    rw [← lendsW_at] at h1
    exact h1.sub (hsub j hj)
  have hcalls := hsound x (lent S H β s.bx w) w vs id hd (lent_lies S hw) (GlOk.ctr hE (hw.ext.trans (lent_ext S hw)) hw.keep hct) (by omega) hargs
  unfold Oper.wp
  rw [hrun]
  simp only [Oper.upon]
  refine hcalls.mono ?_
  rintro e w' ⟨v, H', T', rfl, hb, hH, hold, hT', hseal, hg, hfr⟩
  have hcell : ∀ b q v, w.cell? ⟨b, q, none⟩ = some v → w'.cell? ⟨b, q, none⟩ = some v := fun b q v e => by
    rw [hb.cell (p := ⟨b, q, none⟩) (cell_lt e)]; exact e
  have hfro : ∀ b q, b < w.heap.size → w'.frozen? ⟨b, q, none⟩ = w.frozen? ⟨b, q, none⟩ := fun b q e => hb.frozen (p := ⟨b, q, none⟩) e
  let H2 : HM := fun b q => if b < w.heap.size then H b q else H' b q
  let T2 : TM := fun b q => if b < w.heap.size then T b q else T' b q
  have hHl : HLe H H2 := fun b q u e => by
    show (if b < w.heap.size then H b q else H' b q) = some u
    rw [if_pos (cell_lt (hw.lies _ _ _ e).1)]; exact e
  have hHn : HLe (newH w H') H2 := fun b q u e => by
    unfold newH at e
    show (if b < w.heap.size then H b q else H' b q) = some u
    by_cases hlt : b < w.heap.size
    · rw [if_pos hlt] at e; cases e
    · rw [if_neg hlt] at e ⊢; exact e
  have hTl : TLe T T2 := fun b q i e => by
    obtain ⟨_, h2, _⟩ := hw.tail _ _ _ e
    obtain ⟨u, hu⟩ := Option.isSome_iff_exists.1 h2
    show (if b < w.heap.size then T b q else T' b q) = some i
    rw [if_pos (cell_lt hu)]; exact e
  have hTr : TLe T' T2 := fun b q i e => by
    show (if b < w.heap.size then T b q else T' b q) = some i
    rw [if_neg (by have := (hT' _ _ _ e).1; omega)]; exact e
  have hg2 : G H2 β T2 (ct.res x id) v := by
    rcases hsc with h1 | h1
    · exact (hfr h1).mono hHn (noB_le _) hTr
    · exact hg.scal h1 H2 β T2
  refine hn _ _ v H2 β T2 w' hk (hf.mono hHl (.refl _) hTl) ?_ hg2
  refine ⟨?_, ?_, ?_, hw.inj, ?_, ?_, hw.hand, hw.many, hw.mine, hw.out, hw.keep.below hb, hw.ext.trans hHl, ?_, fun k e => (hw.edge k e).heap hb.block hb.size, fun X e => (hw.side X e).of (fun k hk _ => hb.block k hk) (fun k hk hq => ⟨((hw.side X e).2 k hq).1, fun o => ⟨by show (if k < w.heap.size then H k o else H' k o) = none; rw [if_pos hk]; exact (((hw.side X e).2 k hq).2.1 o).1, by show (if k < w.heap.size then T k o else T' k o) = none; rw [if_pos hk]; exact (((hw.side X e).2 k hq).2.1 o).2⟩⟩)⟩
  · intro b q u e
    replace e : (if b < w.heap.size then H b q else H' b q) = some u := e
    show _ ∧ (if b < w.heap.size then T b q else T' b q) = none
    by_cases hlt : b < w.heap.size
    · rw [if_pos hlt] at e ⊢; exact ⟨hcell _ _ _ (hw.lies b q u e).1, (hw.lies b q u e).2⟩
    · rw [if_neg hlt] at e ⊢; exact hseal b q u e
  · intro id' cs e hl
    obtain ⟨kk, hkk, hm, hj⟩ := hw.box id' cs e hl
    refine ⟨kk, hkk, hm, fun j hlt => ?_⟩
    obtain ⟨a1, a2, a3, u, a4, a5⟩ := hj j hlt
    have hkl := cell_lt a4
    refine ⟨?_, ?_, by rw [hfro _ _ hkl]; exact a3, u, hcell _ _ _ a4, a5.mono hHl (.refl _) hTl⟩
    · show (if kk < w.heap.size then H kk j else H' kk j) = none
      rw [if_pos hkl]; exact a1
    · show (if kk < w.heap.size then T kk j else T' kk j) = none
      rw [if_pos hkl]; exact a2
  · intro id' kk e
    obtain ⟨a1, a2⟩ := hw.bβ id' kk e
    exact ⟨Nat.lt_of_lt_of_le a1 hb.size, a2⟩
  · intro b q i e
    replace e : (if b < w.heap.size then T b q else T' b q) = some i := e
    by_cases hlt : b < w.heap.size
    · rw [if_pos hlt] at e
      obtain ⟨a1, a2, a3⟩ := hw.tail b q i e
      obtain ⟨u, hu⟩ := Option.isSome_iff_exists.1 a2
      exact ⟨a1, by rw [hcell _ _ _ hu]; rfl, by rw [hfro _ _ hlt]; exact a3⟩
    · rw [if_neg hlt] at e
      obtain ⟨a1, a2, a3⟩ := hT' b q i e
      exact ⟨.inr (Nat.le_trans hw.keep.size a1), a2, a3⟩
  · intro b q i e j c
    replace e : (if b < w.heap.size then T b q else T' b q) = some i := e
    rw [if_pos (hw.bβ _ _ c).1] at e
    exact hw.sep _ _ _ e _ c
  · intro b q hm
    have hlt : b < w.heap.size := by
      have := hw.keep.size
      omega
    refine (hw.fresh b q hm).imp (fun e => e) fun e => ?_
    show (if b < w.heap.size then H b q else H' b q) = _
    rw [if_pos hlt]
    exact e
mutual
theorem condsK_arrL (tb : List (Nat × List SV)) (k : Prop) : ∀ (x : SV) (r : List (Nat × Nat)), condsK (arrL tb x r) k = arrC tb x (condsK r k)
  | .arr b z o n c, r => by
    unfold arrL arrC
    cases lookT tb b with
    | none => rfl
    | some cs => cases cs with
      | nil => rfl
      | cons c q => cases c <;> rfl
  | .agg l, r => by unfold arrL arrC; exact condsK_arrLs tb k l r
  | .tup l, r => by unfold arrL arrC; exact condsK_arrLs tb k l r
  | .fn g l, r => by unfold arrL arrC; exact condsK_arrLs tb k l r
  | .val _, r => rfl
  | .tt, r => rfl
  | .ff, r => rfl
  | .junk, r => rfl
  | .nb _, r => rfl
  | .row _ _ _ _ _, r => rfl
  | .own _ _ _ _ _ _, r => rfl
  | .elt _ _ _ _ _ _ _, r => rfl
  | .box _ _, r => rfl
  | .plc _ _ _ _, r => rfl
  | .many _ _ _ _ _, r => rfl
  | .ifc, r => rfl
  | .e0, r => rfl
theorem condsK_arrLs (tb : List (Nat × List SV)) (k : Prop) : ∀ (l : List SV) (r : List (Nat × Nat)), condsK (arrL.arrLs tb l r) k = arrC.arrCs tb l (condsK r k)
  | [], r => rfl
  | x :: xs, r => by unfold arrL.arrLs arrC.arrCs; rw [condsK_arrL tb k x, condsK_arrLs tb k xs]
end
theorem condsK_arrLT (tb : List (Nat × List SV)) (k : Prop) : ∀ (q : List (Nat × List SV)) (r : List (Nat × Nat)), condsK (arrLT tb q r) k = arrT tb q (condsK r k)
  | [], r => rfl
  | (_, cs) :: q, r => by unfold arrLT arrT; rw [condsK_arrLs, condsK_arrLT tb k q]
theorem enterK_eq (d : Nat) (bx : Tr (Option (List SV))) (c : Ctr) (l : List SV) (k : SV → Prop) : enterK d bx c l k = (match hasB.hasBs l with
  | false => ∃ x : c.A, SubL l (c.enc x) ∧ imm.imms (c.enc x) = true ∧ c.dom x ∧ force (c.res x d) k
  | true => gatherK bx 6 (boxesOf.boxesOfs l []) [] fun tb => arrC.arrCs tb l (arrT tb tb (∃ x : c.A, SubL (lendW.lendsW (lendB tb 3) (lendR tb) l) (c.enc x) ∧ imm.imms (c.enc x) = true ∧ c.dom x ∧ force (c.res x d) fun v => match c.fresh with
    | true => k v
    | false => match scal v with
      | true => k v
      | false => False))) := by
  unfold enterK
  simp only [condsK_arrLs, condsK_arrLT, condsK]
  cases hasB.hasBs l <;> rfl
/-- a call in one state, and in one with more variables -/
theorem enterK_mono {d : Nat} {bx bx' : Tr (Option (List SV))} {c : Ctr} {l : List SV} {k : SV → Prop} (hle : ∀ id cs, bx.get id none = some cs → bx'.get id none = some cs) (h : enterK d bx c l k) : ∃ v, (∀ k' : SV → Prop, k' v → enterK d bx' c l k') ∧ k v ∧
    ((hasB.hasBs l = false ∧ ∃ x : c.A, SubL l (c.enc x) ∧ imm.imms (c.enc x) = true ∧ c.dom x ∧ v = c.res x d) ∨
    (hasB.hasBs l = true ∧ ∃ (tb : List (Nat × List SV)) (x : c.A), (∀ id cs, lookT tb id = some cs → bx.get id none = some cs) ∧ allA.allAs (arrOk tb) l ∧ (∀ id cs, lookT tb id = some cs → allA.allAs (arrOk tb) cs) ∧ SubL (lendW.lendsW (lendB tb 3) (lendR tb) l) (c.enc x) ∧ imm.imms (c.enc x) = true ∧ c.dom x ∧ (c.fresh = true ∨ scal (c.res x d) = true) ∧ v = c.res x d)) := by
  rw [enterK_eq] at h
  cases hb : hasB.hasBs l with
  | false =>
    rw [hb] at h
    obtain ⟨x, h1, h2, h3, h4⟩ := h
    rw [force_eq] at h4
    refine ⟨_, fun k' hk' => ?_, h4, .inl ⟨rfl, x, h1, h2, h3, rfl⟩⟩
    rw [enterK_eq]
    rw [hb]
    exact ⟨x, h1, h2, h3, by rw [force_eq]; exact hk'⟩
  | true =>
    rw [hb] at h
    obtain ⟨tb, harr, ht, hback⟩ := gatherK_rel hle 6 _ [] _ (fun _ _ e => by cases e) h
    obtain ⟨ha1, harr2⟩ := arrCs_elim l harr
    obtain ⟨ha2, x, h1, h2, h3, h4⟩ := arrT_elim tb harr2
    rw [force_eq] at h4
    have hsc : (c.fresh = true ∨ scal (c.res x d) = true) ∧ k (c.res x d) := by
      cases hfr : c.fresh with
      | true => rw [hfr] at h4; exact ⟨.inl rfl, h4⟩
      | false =>
        rw [hfr] at h4
        simp only at h4
        cases hs : scal (c.res x d) with
        | true => rw [hs] at h4; exact ⟨.inr rfl, h4⟩
        | false => rw [hs] at h4; exact h4.elim
    refine ⟨_, fun k' hk' => ?_, hsc.2, .inr ⟨rfl, tb, x, ht, ha1, ha2, h1, h2, h3, hsc.1, rfl⟩⟩
    rw [enterK_eq]
    rw [hb]
    refine hback _ (arrCs_mono l harr fun h => arrT_mono tb h fun _ => ⟨x, h1, h2, h3, ?_⟩)
    rw [force_eq]
    rcases hsc.1 with h | h
    · rw [h]; exact hk'
    · cases hfr : c.fresh with
      | true => exact hk'
      | false => rw [h]; exact hk'
theorem enterK_elim {d : Nat} {bx : Tr (Option (List SV))} {c : Ctr} {l : List SV} {k : SV → Prop} (h : enterK d bx c l k) :
    (hasB.hasBs l = false ∧ ∃ x : c.A, SubL l (c.enc x) ∧ imm.imms (c.enc x) = true ∧ c.dom x ∧ k (c.res x d)) ∨
    (hasB.hasBs l = true ∧ ∃ (tb : List (Nat × List SV)) (x : c.A), (∀ id cs, lookT tb id = some cs → bx.get id none = some cs) ∧ allA.allAs (arrOk tb) l ∧ (∀ id cs, lookT tb id = some cs → allA.allAs (arrOk tb) cs) ∧ SubL (lendW.lendsW (lendB tb 3) (lendR tb) l) (c.enc x) ∧ imm.imms (c.enc x) = true ∧ c.dom x ∧ (c.fresh = true ∨ scal (c.res x d) = true) ∧ k (c.res x d)) := by
  obtain ⟨v, -, hk, h | h⟩ := enterK_mono (fun _ _ h => h) h
  · obtain ⟨h0, x, h1, h2, h3, rfl⟩ := h
    exact .inl ⟨h0, x, h1, h2, h3, hk⟩
  · obtain ⟨h0, tb, x, ht, ha1, ha2, h1, h2, h3, hsc, rfl⟩ := h
    exact .inr ⟨h0, tb, x, ht, ha1, ha2, h1, h2, h3, hsc, hk⟩
theorem enterK_rel {d : Nat} {bx : Tr (Option (List SV))} {c : Ctr} {l : List SV} {k : SV → Prop} (h : enterK d bx c l k) : ∃ v, (∀ k' : SV → Prop, k' v → enterK d bx c l k') ∧ k v := by
  obtain ⟨v, h1, h2, -⟩ := enterK_mono (fun _ _ h => h) h
  exact ⟨v, h1, h2⟩

theorem nmsW_length (f ow : Nat → Option Nat) : ∀ l : List SV, (nmW.nmsW f ow l).length = l.length
  | [] => rfl
  | x :: xs => by simp [nmW.nmsW, nmsW_length f ow xs]
theorem nmsW_at (f ow : Nat → Option Nat) : ∀ (l : List SV) (j : Nat), at' (nmW.nmsW f ow l) j .junk = nmW f ow (at' l j .junk)
  | [], _ => rfl
  | x :: xs, 0 => rfl
  | x :: xs, j + 1 => nmsW_at f ow xs j
theorem nmW_G {H : HM} {f ow : Nat → Option Nat} {β β' : BM} {T T' : TM} (hb : ∀ b b' k, f b = some b' → β b = some k → β' b' = some k) (ht : ∀ i i', ow i = some i' → ∀ b o, T b o = some i → T' b o = some i')
    {x : SV} {v : Value} (h : G H β T x v) : G H β' T' (nmW f ow x) v := by
  have go : (∀ b b' k, f b = some b' → β b = some k → β' b' = some k) → (∀ i i', ow i = some i' → ∀ b o, T b o = some i → T' b o = some i') → G H β' T' (nmW f ow x) v := by
    clear hb ht
    induction h with
    | val v => intros; exact .val v
    | tt => intros; exact .tt
    | ff => intros; exact .ff
    | junk v => intros; exact .junk v
    | nb Q b h => intros; exact .nb Q b h
    | ifc t v => intros; exact .ifc t v
    | e0 a => intros; exact .e0 a
    | rowE => intros; exact .rowE ..
    | row X sz cs d l b off c vs hc hz hh hg ih => intros; exact .row X sz cs d l b off c vs hc hz hh hg
    | ownE X sz cs d id => intros; unfold nmW; split <;> first | exact .ownE .. | exact .rowE ..
    | own X sz cs d l id b off c vs hc hz hh hg hT ih =>
      intro _ h2
      unfold nmW
      split
      · rename_i id' e
        exact .own X sz cs d l id' b off c vs hc hz hh hg fun q h3 h4 => h2 _ _ e _ _ (hT q h3 h4)
      · exact .row X sz cs d l b off c vs hc hz hh hg
    | elt X sz cs d l i o b p vs hz hh hg ih => intros; exact .elt X sz cs d l i o b p vs hz hh hg
    | box b o k h =>
      intro h1 _
      unfold nmW
      split
      · rename_i b' e; exact .box _ _ _ (h1 _ _ _ e h)
      · exact .junk _
    | arr b z o n cap k c h hc he =>
      intro h1 _
      unfold nmW
      split
      · rename_i b' e; exact .arr _ _ _ _ _ _ _ (h1 _ _ _ e h) hc he
      · exact .junk _
    | arrE b z o a c =>
      intro h1 _
      unfold nmW
      split
      · exact .arrE ..
      · exact .junk _
    | plc b z i o k hi h =>
      intro h1 _
      unfold nmW
      split
      · rename_i b' e; exact .plc _ _ _ _ _ hi (h1 _ _ _ e h)
      · exact .junk _
    | agg l vs hn h ih => intro h1 h2; exact .agg _ vs (by rw [nmsW_length]; exact hn) fun j e => by rw [nmsW_at]; exact ih j (by rw [nmsW_length] at e; exact e) h1 h2
    | tup l vs hn h ih => intro h1 h2; exact .tup _ vs (by rw [nmsW_length]; exact hn) fun j e => by rw [nmsW_at]; exact ih j (by rw [nmsW_length] at e; exact e) h1 h2
    | fn g l vs hn h ih => intro h1 h2; exact .fn g _ vs (by rw [nmsW_length]; exact hn) fun j e => by rw [nmsW_at]; exact ih j (by rw [nmsW_length] at e; exact e) h1 h2
  exact go hb ht
def ManyOk (cs : List SV) : Prop := ∀ X sz c d l, cs = [.many X sz c d l] → 0 < sz ∧ ∀ x, (c x).length = sz ∧ imm.imms (c x) = true ∧ allOk (c x) = true
theorem isMany_nm (f ow : Nat → Option Nat) : ∀ cs : List SV, isMany (nmW.nmsW f ow cs) = isMany cs
  | [] => rfl
  | c :: r => by
    show isMany (nmW f ow c :: nmW.nmsW f ow r) = _
    cases c with
    | own T sz cs d l id => simp only [nmW]; cases ow id <;> rfl
    | box b o => simp only [nmW]; cases f b <;> rfl
    | arr b z o n c => simp only [nmW]; cases f b <;> rfl
    | plc b z i o => simp only [nmW]; cases f b <;> rfl
    | _ => rfl
theorem xlen_two (a b : SV) (r : List SV) : xlen (a :: b :: r) = (a :: b :: r).length := by cases a <;> rfl
theorem xat_two (a b : SV) (r : List SV) (j : Nat) : xat (a :: b :: r) j = at' (a :: b :: r) j .junk := by cases a <;> rfl
theorem xlen_nm (f ow : Nat → Option Nat) (cs : List SV) : xlen (nmW.nmsW f ow cs) = xlen cs := by
  cases h : isMany cs with
  | false => rw [xlen_not h, xlen_not (by rw [isMany_nm]; exact h), nmsW_length]
  | true =>
    match cs, h with
    | [.many X sz c d l], _ => rfl
    | a :: b :: r, _ =>
      have e2 : xlen (nmW.nmsW f ow (a :: b :: r)) = (nmW.nmsW f ow (a :: b :: r)).length := xlen_two _ _ _
      rw [xlen_two, e2, nmsW_length]
theorem many_nm {f ow : Nat → Option Nat} {cs : List SV} {X sz c d l} (h : nmW.nmsW f ow cs = [.many X sz c d l]) : cs = [.many X sz c d l] := by
  match cs with
  | [] => cases h
  | [x] =>
    have h : nmW f ow x = .many X sz c d l := by simpa [nmW.nmsW] using h
    cases x with
    | own T sz cs d l id => simp only [nmW] at h; cases ho : ow id <;> rw [ho] at h <;> cases h
    | box b o => simp only [nmW] at h; cases ho : f b <;> rw [ho] at h <;> cases h
    | arr b z o n c => simp only [nmW] at h; cases ho : f b <;> rw [ho] at h <;> cases h
    | plc b z i o => simp only [nmW] at h; cases ho : f b <;> rw [ho] at h <;> cases h
    | many X' sz' c' d' l' => simp only [nmW] at h; cases h; rfl
    | _ => simp [nmW] at h
  | a :: b :: r => simp [nmW.nmsW] at h
theorem xat_nm {H : HM} {f ow : Nat → Option Nat} {β β' : BM} {T T' : TM} (hb : ∀ b b' k, f b = some b' → β b = some k → β' b' = some k) (ht : ∀ i i', ow i = some i' → ∀ b o, T b o = some i → T' b o = some i')
    {cs : List SV} (hm : ManyOk cs) {j : Nat} (hj : j < xlen cs) {v : Value} (h : G H β T (xat cs j) v) : G H β' T' (xat (nmW.nmsW f ow cs) j) v := by
  cases hi : isMany cs with
  | false =>
    rw [xat_not (by rw [isMany_nm]; exact hi), nmsW_at]
    rw [xat_not hi] at h
    exact nmW_G hb ht h
  | true =>
    match cs, hi, hm, h, hj with
    | [.many X sz c d l], _, hm, h, hj =>
      obtain ⟨h0, hx⟩ := hm _ _ _ _ _ rfl
      have e : xat [SV.many X sz c d l] j = at' (c (l.getD (j / sz) d)) (j % sz) .junk := rfl
      show G H β' T' (xat [SV.many X sz c d l] j) v
      rw [e] at h ⊢
      exact h.imm (imms_at (hx _).2.1 _ (by rw [(hx _).1]; exact Nat.mod_lt _ h0)) β' T'
    | a :: b :: r, _, hm, h, hj =>
      have e2 : xat (nmW.nmsW f ow (a :: b :: r)) j = at' (nmW.nmsW f ow (a :: b :: r)) j .junk := xat_two _ _ _ _
      rw [xat_two] at h
      rw [e2, nmsW_at]
      exact nmW_G hb ht h
theorem subC_spec {x y : List SV} (h : subC x y) : xlen x = xlen y ∧ (∀ j, j < xlen y → ∀ {H : HM} {β : BM} {T : TM} {v : Value}, G H β T (xat x j) v → G H β T (xat y j) v) ∧ (∀ X sz c d l, y = [.many X sz c d l] → x = y) := by
  obtain ⟨hm, hs⟩ := h
  obtain ⟨hl, hsub⟩ := SubL_at hs
  cases hy : isMany y with
  | false =>
    have hx : isMany x = false := by rw [hm]; exact hy
    refine ⟨by rw [xlen_not hx, xlen_not hy, hl], fun j hj H β T v hg => ?_, fun X sz c d l e => by rw [e] at hy; cases hy⟩
    rw [xat_not hx] at hg
    rw [xat_not hy]
    rw [xlen_not hy] at hj
    exact hg.sub (hsub j hj)
  | true =>
    have hx : isMany x = true := by rw [hm]; exact hy
    match x, y, hx, hy, hl, hs with
    | [.many X sz c d l], [.many X' sz' c' d' l'], _, _, _, hs =>
      have : SV.many X sz c d l = SV.many X' sz' c' d' l' := by
        obtain ⟨h1, -⟩ := hs
        cases h1; rfl
      rw [this]
      exact ⟨rfl, fun j hj H β T v hg => hg, fun _ _ _ _ _ _ => rfl⟩
    | [_], _ :: _ :: _, _, _, hl, _ => simp at hl
    | a :: b :: r, [_], _, _, hl, _ => simp at hl
    | a :: b :: r, a' :: b' :: r', _, _, hl', _ =>
      refine ⟨by rw [xlen_two, xlen_two]; exact hl', fun j hj H β T v hg => ?_, fun X sz c d l e => by simp at e⟩
      rw [xat_two] at hg
      rw [xat_two]
      rw [xlen_two] at hj
      exact hg.sub (hsub j hj)
/-- variables that a call reaches: each once, each there -/
def Seen (bx : Tr (Option (List SV))) (σ : List (Nat × List SV)) : Prop := (σ.map (·.1)).Nodup ∧ ∀ p ∈ σ, bx.get p.1 none = some p.2
theorem memP_false {α : Type _} {σ : List (Nat × α)} {id : Nat} (h : memP σ id = false) : id ∉ σ.map (·.1) := by
  induction σ with
  | nil => simp
  | cons p r ih =>
    obtain ⟨x, cs⟩ := p
    unfold memP at h
    cases e : Nat.beq x id with
    | true => rw [e] at h; cases h
    | false =>
      rw [e] at h
      have : ¬ id = x := fun c => by rw [c, Nat.beq_refl] at e; cases e
      simp only [List.map_cons, List.mem_cons, not_or]
      exact ⟨this, ih h⟩
theorem seenK_rel {bx : Tr (Option (List SV))} : ∀ (n : Nat) (ids : List Nat) (σ : List (Nat × List SV)) (k : List (Nat × List SV) → Prop), Seen bx σ → seenK bx n ids σ k →
    ∃ σ', Seen bx σ' ∧ k σ' ∧ (∀ k' : List (Nat × List SV) → Prop, k' σ' → seenK bx n ids σ k') ∧ σ'.length ≤ σ.length + n
  | 0, ids, σ, k, hs, h => ⟨σ, hs, h, fun _ h => h, Nat.le_refl _⟩
  | n + 1, [], σ, k, hs, h => ⟨σ, hs, h, fun _ h => h, by omega⟩
  | n + 1, id :: r, σ, k, hs, h => by
    unfold seenK at h ⊢
    cases hm : memP σ id with
    | true =>
      rw [hm] at h
      obtain ⟨σ', a, b, c, e⟩ := seenK_rel n r σ k hs h
      exact ⟨σ', a, b, c, by omega⟩
    | false =>
      rw [hm] at h
      simp only at h ⊢
      cases hb : bx.get id none with
      | none => rw [hb] at h; exact h.elim
      | some cs =>
        rw [hb] at h
        refine Exists.elim (seenK_rel n _ _ k ⟨?_, ?_⟩ h) fun σ' ⟨a, b, c, e⟩ => ⟨σ', a, b, c, by simp at e; omega⟩
        · rw [List.map_append, List.nodup_append]
          refine ⟨hs.1, by simp, ?_⟩
          intro a ha b hb2 c
          simp only [List.map_cons, List.map_nil, List.mem_singleton] at hb2
          exact memP_false hm (hb2 ▸ c ▸ ha)
        · intro p hp
          rcases List.mem_append.1 hp with c | c
          · exact hs.2 p c
          · rw [List.mem_singleton] at c; rw [c]; exact hb
theorem nameN_spec : ∀ {σ : List (Nat × List SV)} {i b n : Nat}, nameN σ i b = some n → ∃ q cs, n = i + q ∧ σ[q]? = some (b, cs)
  | [], _, _, _, h => by cases h
  | (x, cs) :: r, i, b, n, h => by
    unfold nameN at h
    cases e : Nat.beq x b with
    | true => rw [e] at h; cases h; exact ⟨0, cs, rfl, by rw [Nat.eq_of_beq_eq_true e]; rfl⟩
    | false =>
      rw [e] at h
      obtain ⟨q, cs', h1, h2⟩ := nameN_spec h
      exact ⟨q + 1, cs', by omega, h2⟩
theorem backN_spec : ∀ {σ : List (Nat × List SV)} {d i b n : Nat}, backN σ d i b = some n → (∃ q cs, b = i + q ∧ σ[q]? = some (n, cs)) ∨ (b = i + σ.length ∧ n = d)
  | [], d, i, b, n, h => by
    unfold backN at h
    cases e : Nat.beq b i with
    | true => rw [e] at h; cases h; exact .inr ⟨Nat.eq_of_beq_eq_true e, rfl⟩
    | false => rw [e] at h; cases h
  | (x, cs) :: r, d, i, b, n, h => by
    unfold backN at h
    cases e : Nat.beq b i with
    | true => rw [e] at h; cases h; exact .inl ⟨0, cs, Nat.eq_of_beq_eq_true e, rfl⟩
    | false =>
      rw [e] at h
      rcases backN_spec h with ⟨q, cs', h1, h2⟩ | ⟨h1, h2⟩
      · exact .inl ⟨q + 1, cs', by omega, h2⟩
      · exact .inr ⟨by simp; omega, h2⟩
theorem namedL_length (f : Nat → Option Nat) : ∀ σ : List (Nat × List SV), (namedL f σ).length = σ.length
  | [] => rfl
  | (_, _) :: r => by simp [namedL, namedL_length f r]
theorem namedL_at (f : Nat → Option Nat) : ∀ (σ : List (Nat × List SV)) (q b : Nat) (cs : List SV), σ[q]? = some (b, cs) → (namedL f σ)[q]? = some (nmW.nmsW f (fun _ => none) cs)
  | (_, _) :: r, 0, b, cs, h => by simp at h; obtain ⟨rfl, rfl⟩ := h; rfl
  | (_, _) :: r, q + 1, b, cs, h => namedL_at f r q b cs h
theorem subLL_spec : ∀ {a b : List (List SV)}, subLL a b → a.length = b.length ∧ ∀ (q : Nat) (y : List SV), b[q]? = some y → ∃ x, a[q]? = some x ∧ subC x y
  | [], [], _ => ⟨rfl, fun q y e => by simp at e⟩
  | x :: xs, y :: ys, h => by
    obtain ⟨h1, h2⟩ := subLL_spec h.2
    refine ⟨by simp [h1], fun q z e => ?_⟩
    cases q with
    | zero => simp at e; subst e; exact ⟨x, rfl, h.1⟩
    | succ q => exact h2 q z e
  | [], _ :: _, h => h.elim
  | _ :: _, [], h => h.elim
theorem backK_lt {f : Nat → Option Nat} {d : Nat} : ∀ (σ : List (Nat × List SV)) (ps : List (List SV)) (bx : Tr (Option (List SV))) (k : Tr (Option (List SV)) → Prop), backK f d σ ps bx k → ∀ p ∈ σ, p.1 < 9999
  | [], _, _, _, _ => fun p hp => by cases hp
  | (_, _) :: _, [], _, _, h => h.elim
  | (b0, c0) :: r, p :: ps, bx, k, h => by
    unfold backK at h
    cases hb9 : Nat.blt b0 9999 with
    | false => rw [hb9] at h; exact h.elim
    | true =>
      rw [hb9] at h
      simp only [forceL_eq, Tr.putK_eq] at h
      intro q hq
      cases hq with
      | head => have := Nat.le_of_ble_eq_true hb9; exact this
      | tail _ hq => exact backK_lt r ps _ k h q hq
/-- the variables behind a call: which are changed, what is made -/
theorem backK_spec {f : Nat → Option Nat} {d : Nat} : ∀ (σ : List (Nat × List SV)) (ps : List (List SV)) (bx : Tr (Option (List SV))) (k : Tr (Option (List SV)) → Prop), (σ.map (·.1)).Nodup → (∀ p ∈ σ, bx.has p.1 = true) → backK f d σ ps bx k →
    ∃ bx', k bx' ∧ (∀ k' : Tr (Option (List SV)) → Prop, k' bx' → backK f d σ ps bx k') ∧ (σ.length ≤ ps.length) ∧ (∀ (q b : Nat) (cs : List SV), σ[q]? = some (b, cs) → ∃ p, ps[q]? = some p ∧ bx'.get b none = some (nmW.nmsW f some p)) ∧
      ((ps.length = σ.length ∧ ∀ id, id ∉ σ.map (·.1) → bx'.get id none = bx.get id none) ∨
       (ps.length = σ.length + 1 ∧ d < 1000 ∧ ((d ∉ σ.map (·.1) → bx.get d none = none) ∧ ∃ p, ps[σ.length]? = some p ∧ bx'.get d none = some (nmW.nmsW f some p)) ∧ d ∉ σ.map (·.1) ∧ ∀ id, id ∉ σ.map (·.1) → id ≠ d → bx'.get id none = bx.get id none))
  | [], [], bx, k, _, _, h => ⟨bx, h, fun _ h => h, Nat.le_refl _, fun q b cs e => by simp at e, .inl ⟨rfl, fun _ _ => rfl⟩⟩
  | [], [p], bx, k, _, _, h => by
    unfold backK at h
    cases hb : bx.get d (some []) with
    | some _ => rw [hb] at h; exact h.elim
    | none =>
      rw [hb] at h
      simp only at h
      cases hd : Nat.blt d 1000 with
      | false => rw [hd] at h; exact h.elim
      | true =>
        rw [hd] at h
        simp only [forceL_eq, Tr.putK_eq] at h
        obtain ⟨hdl, hdn⟩ := at'_none hb
        refine ⟨_, h, fun k' hk' => ?_, by simp, fun q b cs e => by simp at e, .inr ⟨rfl, by have := Nat.le_of_ble_eq_true hd; omega, ⟨fun _ => hdn, p, rfl, ?_⟩, by simp, fun id _ hne => ?_⟩⟩
        · unfold backK; rw [hb, hd]; simp only [forceL_eq, Tr.putK_eq]; exact hk'
        · rw [Tr.get_put, if_pos ⟨rfl, hdl⟩]
        · rw [Tr.get_put, if_neg (fun c => hne c.1.symm)]
  | [], _ :: _ :: _, _, _, _, _, h => h.elim
  | (_, _) :: _, [], _, _, _, _, h => h.elim
  | (b0, c0) :: r, p :: ps, bx, k, hn, hh, h => by
    unfold backK at h
    cases hb9 : Nat.blt b0 9999 with
    | false => rw [hb9] at h; exact h.elim
    | true =>
    rw [hb9] at h
    simp only [forceL_eq, Tr.putK_eq] at h
    simp only [List.map_cons, List.nodup_cons] at hn
    have hb0 := hh _ List.mem_cons_self
    obtain ⟨bx', h1, h2, h3, h4, h5⟩ := backK_spec r ps _ k hn.2 (fun q hq => by rw [Tr.has_put]; exact hh q (List.mem_cons_of_mem _ hq)) h
    have hd0 : ∀ id, b0 ≠ id → (bx.put b0 (some (nmW.nmsW f some p))).get id none = bx.get id none := fun id c => by rw [Tr.get_put, if_neg (fun e => c e.1)]
    have hown : bx'.get b0 none = some (nmW.nmsW f some p) ∧ (ps.length = r.length + 1 → b0 ≠ d) := by
      have same : (bx.put b0 (some (nmW.nmsW f some p))).get b0 none = some (nmW.nmsW f some p) := by rw [Tr.get_put, if_pos ⟨rfl, hb0⟩]
      rcases h5 with ⟨e, h5⟩ | ⟨e, -, ⟨h6, -⟩, h7, h5⟩
      · exact ⟨by rw [h5 _ hn.1]; exact same, fun c => by omega⟩
      · have hne : b0 ≠ d := fun c => by
          have := h6 h7
          rw [← c, same] at this; cases this
        exact ⟨by rw [h5 _ hn.1 hne]; exact same, fun _ => hne⟩
    refine ⟨bx', h1, fun k' hk' => ?_, by simp; omega, fun q b cs e => ?_, ?_⟩
    · unfold backK; rw [hb9]; simp only [forceL_eq, Tr.putK_eq]; exact h2 k' hk'
    · cases q with
      | zero => simp at e; obtain ⟨rfl, rfl⟩ := e; exact ⟨p, rfl, hown.1⟩
      | succ q => exact h4 q b cs e
    · rcases h5 with ⟨e, h5⟩ | ⟨e, hd, ⟨h6, p', h8, h9⟩, h7, h5⟩
      · exact .inl ⟨by simp [e], fun id hid => by
          simp only [List.map_cons, List.mem_cons, not_or] at hid
          rw [h5 id hid.2]; exact hd0 _ (fun c => hid.1 c.symm)⟩
      · have hne := hown.2 e
        refine .inr ⟨by simp [e], hd, ⟨fun _ => ?_, p', by simpa using h8, h9⟩, ?_, fun id hid hne2 => ?_⟩
        · rw [← hd0 d hne]; exact h6 h7
        · simp only [List.map_cons, List.mem_cons, not_or]; exact ⟨fun c => hne c.symm, h7⟩
        · simp only [List.map_cons, List.mem_cons, not_or] at hid
          rw [h5 id hid.2 hne2]; exact hd0 _ (fun c => hid.1 c.symm)
theorem has_of_get {bx : Tr (Option (List SV))} {id : Nat} {cs : List SV} (h : bx.get id none = some cs) : bx.has id = true := by
  cases e : bx.has id with
  | true => rfl
  | false => rw [Tr.get_out _ _ _ e] at h; cases h
theorem enterB_rel {bs : List Nat} {d : Nat} {bx : Tr (Option (List SV))} {c : CtrB} {l : List SV} {k : SV → Tr (Option (List SV)) → Prop} (h : enterB bs d bx c l k) :
    ∃ (σ : List (Nat × List SV)) (x : c.A) (bx' : Tr (Option (List SV))), ((Seen bx σ ∧ σ.length ≤ 8) ∧ noneQ bs σ d = true) ∧ SubL (nmW.nmsW (nameN σ 1000) (fun _ => none) l) (c.enc x) ∧ subLL (namedL (nameN σ 1000) σ) (c.pre x) ∧ c.dom x ∧
      backK (backN σ d 1000) d σ (c.post x d) bx (fun b => b = bx') ∧ k (nmW (backN σ d 1000) some (c.res x d)) bx' ∧
      ∀ k' : SV → Tr (Option (List SV)) → Prop, k' (nmW (backN σ d 1000) some (c.res x d)) bx' → enterB bs d bx c l k' := by
  obtain ⟨σ, h1, ⟨h0, x, h2, h3, h4, h5⟩, h6, h9⟩ := seenK_rel 8 _ [] _ ⟨by simp, fun p hp => by simp at hp⟩ h
  obtain ⟨bx', h7, h8, -⟩ := backK_spec σ _ bx _ h1.1 (fun p hp => has_of_get (h1.2 p hp)) h5
  rw [force_eq] at h7
  exact ⟨σ, x, bx', ⟨⟨h1, by simpa using h9⟩, h0⟩, h2, h3, h4, h8 _ rfl, h7, fun k' hk' => h6 _ ⟨h0, x, h2, h3, h4, h8 _ (by rw [force_eq]; exact hk')⟩⟩
theorem Keeps.trans {M M' : BM} {w0 w w' : World} (h : Keeps M w0 w) (h' : Keeps M' w w') (hm : ∀ k, (∃ i, M' i = some k) → Mine M w0 k) : Keeps M w0 w' :=
  ⟨h'.os.trans h.os, h'.tape.trans h.tape, h'.output.trans h.output, Nat.le_trans h.size h'.size, fun k hk hn => by
    rw [h'.block k (Nat.lt_of_lt_of_le hk h.size) (fun c => by rcases hm k c with e | e; exact hn e; omega)]
    exact h.block k hk hn, fun k hk => (h'.shape k (Nat.lt_of_lt_of_le hk h.size)).trans (h.shape k hk)⟩
theorem Keeps.cell {M : BM} {w0 w : World} (h : Keeps M w0 w) {k : Nat} (hk : k < w0.heap.size) (hm : ¬ ∃ i, M i = some k) (j : Nat) : w.cell? ⟨k, j, none⟩ = w0.cell? ⟨k, j, none⟩ ∧ w.frozen? ⟨k, j, none⟩ = w0.frozen? ⟨k, j, none⟩ := by
  have := h.block k hk hm
  constructor
  · simp only [World.cell?, this]
  · simp only [World.frozen?, this]
/-- the value of a function's own contract -/
theorem call_sound (hE : EnvOk P E) (hf : FR H β T s.fr a) (hw : W M w0 H0 H β T s.bx w) (hn : OnTo M w0 H0 a o.dst k next) (f : Operand) (g : FuncId) (caps : List SV) (c : Call) (ho : o.op = .call c) (hc : c.callee = .value f)
    (hcf : ev s f = .fn g caps) {ct : Ctr} (hct : E.ctr g = some ct) (x : ct.A) (hs : SubL (c.args.toList.map (ev s) ++ caps) (ct.enc x)) (hi : imm.imms (ct.enc x) = true) (hd : ct.dom x) (id : Nat) (hk : k (ct.res x id) s) : o.wp P a w next Q := by
  obtain ⟨⟨fn, hfn, hname, hbody⟩, hsound⟩ := hE.ctr g ct hct
  obtain ⟨hlen, hsub⟩ := SubL_at hs
  have hfn2 := ev_G hf f
  rw [hcf] at hfn2
  generalize hfv : a.eval f = fv at hfn2
  cases hfn2 with
  | fn _ _ vs hvn hvg =>
  have hargs : ∀ j, j < (ct.enc x).length → G H noB noT (at' (ct.enc x) j .junk) ((c.args.map a.eval ++ vs).getD j undef) := by
    intro j hj
    have hjl : j < c.args.size + caps.length := by simp at hlen; omega
    have h1 : G H β T (at' (c.args.toList.map (ev s) ++ caps) j .junk) ((c.args.map a.eval ++ vs).getD j undef) := by
      rw [at'_get _ _ _ (by simpa using hjl), List.getElem_append]
      by_cases hja : j < c.args.size
      · rw [dif_pos (by simpa using hja), List.getElem_map, Array.getElem_toList]
        have e : (c.args.map a.eval ++ vs).getD j undef = a.eval c.args[j] := by
          rw [Array.getD_eq_getD_getElem?, Array.getElem?_append_left (by simpa using hja)]
          simp [hja]
        rw [e]; exact ev_G hf _
      · rw [dif_neg (by simpa using hja)]
        have hk' : j - c.args.size < caps.length := by omega
        have e : (c.args.map a.eval ++ vs).getD j undef = vs.getD (j - c.args.size) undef := by
          rw [Array.getD_eq_getD_getElem?, Array.getElem?_append_right (by simpa using hja), Array.getD_eq_getD_getElem?]
          simp
        rw [e]
        have := hvg (j - c.args.size) hk'
        rw [at'_get _ _ _ hk'] at this
        simpa using this
    exact (h1.sub (hsub j hj)).imm (imms_at hi j hj) noB noT
  have hcalls := hsound x H w (c.args.map a.eval ++ vs) id hd (fun b q v e => (hw.lies b q v e).1) (GlOk.ctr hE hw.ext hw.keep hct) (by simp at hlen ⊢; omega) hargs
  have hrun : (execOp a.eval o).run P w = .ok (.enter g (c.args.map a.eval ++ vs)) w := by
    unfold execOp
    obtain ⟨callee, args, argTypes⟩ := c
    simp only at hc
    subst hc
    simp only [ho, resolve, hfv, Deferred.ofValue, Sem.run_bind, Sem.run_pure, Result.andThen_ok, invoke, callFunc, run_program, hfn]
    simp [hname, hbody]
  unfold Oper.wp
  rw [hrun]
  simp only [Oper.upon]
  refine hcalls.mono ?_
  rintro e w' ⟨v, H', T', rfl, hb, hH, hold, hT', hseal, hg, -⟩
  have hcell : ∀ b q v, w.cell? ⟨b, q, none⟩ = some v → w'.cell? ⟨b, q, none⟩ = some v := fun b q v e => by
    rw [hb.cell (p := ⟨b, q, none⟩) (cell_lt e)]; exact e
  have hfro : ∀ b q, b < w.heap.size → w'.frozen? ⟨b, q, none⟩ = w.frozen? ⟨b, q, none⟩ := fun b q e => hb.frozen (p := ⟨b, q, none⟩) e
  let T2 : TM := fun b q => if b < w.heap.size then T b q else T' b q
  have hTl : TLe T T2 := fun b q i e => by
    obtain ⟨_, h2, _⟩ := hw.tail _ _ _ e
    obtain ⟨u, hu⟩ := Option.isSome_iff_exists.1 h2
    show (if b < w.heap.size then T b q else T' b q) = some i
    rw [if_pos (cell_lt hu)]; exact e
  have hTr : TLe T' T2 := fun b q i e => by
    show (if b < w.heap.size then T b q else T' b q) = some i
    rw [if_neg (by have := (hT' _ _ _ e).1; omega)]; exact e
  refine hn _ _ v H' β T2 w' hk (hf.mono hH (.refl _) hTl) ?_ (hg.mono (.refl _) (noB_le _) hTr)
  refine ⟨?_, ?_, ?_, hw.inj, ?_, ?_, hw.hand, hw.many, hw.mine, hw.out, hw.keep.below hb, hw.ext.trans hH, ?_, fun k e => (hw.edge k e).heap hb.block hb.size, fun X e => (hw.side X e).of (fun k hk _ => hb.block k hk) (fun k hk hq => ⟨((hw.side X e).2 k hq).1, fun o => ⟨by rw [hold k o hk]; exact (((hw.side X e).2 k hq).2.1 o).1, by show (if k < w.heap.size then T k o else T' k o) = none; rw [if_pos hk]; exact (((hw.side X e).2 k hq).2.1 o).2⟩⟩)⟩
  · intro b q u e
    refine ⟨(hseal b q u e).1, ?_⟩
    show (if b < w.heap.size then T b q else T' b q) = none
    by_cases hlt : b < w.heap.size
    · rw [if_pos hlt]; rw [hold b q hlt] at e; exact (hw.lies b q u e).2
    · rw [if_neg hlt]; exact (hseal b q u e).2
  · intro id' cs e hl
    obtain ⟨kk, hkk, hm, hj⟩ := hw.box id' cs e hl
    refine ⟨kk, hkk, hm, fun j hlt => ?_⟩
    obtain ⟨a1, a2, a3, u, a4, a5⟩ := hj j hlt
    have hkl := cell_lt a4
    refine ⟨by rw [hold _ _ hkl]; exact a1, ?_, by rw [hfro _ _ hkl]; exact a3, u, hcell _ _ _ a4, a5.mono hH (.refl _) hTl⟩
    show (if kk < w.heap.size then T kk j else T' kk j) = none
    rw [if_pos hkl]; exact a2
  · intro id' kk e
    obtain ⟨a1, a2⟩ := hw.bβ id' kk e
    exact ⟨Nat.lt_of_lt_of_le a1 hb.size, a2⟩
  · intro b q i e
    replace e : (if b < w.heap.size then T b q else T' b q) = some i := e
    by_cases hlt : b < w.heap.size
    · rw [if_pos hlt] at e
      obtain ⟨a1, a2, a3⟩ := hw.tail b q i e
      obtain ⟨u, hu⟩ := Option.isSome_iff_exists.1 a2
      exact ⟨a1, by rw [hcell _ _ _ hu]; rfl, by rw [hfro _ _ hlt]; exact a3⟩
    · rw [if_neg hlt] at e
      obtain ⟨a1, a2, a3⟩ := hT' b q i e
      exact ⟨.inr (Nat.le_trans hw.keep.size a1), a2, a3⟩
  · intro b q i e j c
    replace e : (if b < w.heap.size then T b q else T' b q) = some i := e
    rw [if_pos (hw.bβ _ _ c).1] at e
    exact hw.sep _ _ _ e _ c
  · intro b q hm
    have hlt : b < w.heap.size := by
      have := hw.keep.size
      omega
    rw [hold b q hlt]
    exact hw.fresh b q hm

theorem bcall_eq {bs : List Nat} {c : Callee} {g : Nat} (h : bcall bs c = some g) : c = .value (.func g) := by
  unfold bcall at h
  split at h
  · split at h
    · cases h; rfl
    · cases h
  · cases h
/-- a call of a function that changes variables that it is handed -/
theorem callB_sound (hE : EnvOk P E) (hf : FR H β T s.fr a) (hw : W M w0 H0 H β T s.bx w) (hn : OnTo M w0 H0 a o.dst k next) (g : FuncId) (c : Call) (ho : o.op = .call c) (hc : c.callee = .value (.func g))
    {ct : CtrB} (hct : E.ctrB g = some ct) (d : Nat) {bs : List Nat} (hk : enterB bs d s.bx ct (c.args.toList.map (ev s)) fun v bx => k v ⟨s.fr, bx⟩) : o.wp P a w next Q := by
  obtain ⟨⟨fn, hfn, hname, hbody⟩, hsound⟩ := hE.ctrB g ct hct
  obtain ⟨σ, x, bx', ⟨⟨⟨hnd, hseen⟩, hσ8⟩, -⟩, hs, hpre, hd, hback, hk, -⟩ := enterB_rel hk
  obtain ⟨hlen, hsub⟩ := SubL_at hs
  obtain ⟨hplen, hpsub⟩ := subLL_spec hpre
  rw [namedL_length] at hplen
  rw [nmsW_length] at hlen
  obtain ⟨vs, hvn, hvg, hrun⟩ := call_enters (w := w) (P := P) hf (.func g) g [] c ho hc rfl hfn hname hbody
  rw [List.append_nil] at hvn hvg
  -- the callee's variables
  let βc : BM := fun i => if 1000 ≤ i then (σ[i - 1000]?).bind fun p => β p.1 else none
  have hβc : ∀ i k, βc i = some k → ∃ q b cs, i = 1000 + q ∧ σ[q]? = some (b, cs) ∧ β b = some k := by
    intro i k e
    simp only [βc] at e
    by_cases h1 : 1000 ≤ i
    · rw [if_pos h1] at e
      cases h2 : σ[i - 1000]? with
      | none => rw [h2] at e; cases e
      | some p => rw [h2] at e; exact ⟨i - 1000, p.1, p.2, by omega, h2, e⟩
    · rw [if_neg h1] at e; cases e
  have hβq : ∀ (q b : Nat) (cs : List SV), σ[q]? = some (b, cs) → βc (1000 + q) = β b := by
    intro q b cs e
    simp only [βc]
    rw [if_pos (by omega), show 1000 + q - 1000 = q by omega, e]; rfl
  have hmem : ∀ (q b : Nat) (cs : List SV), σ[q]? = some (b, cs) → s.bx.get b none = some cs := fun q b cs e => hseen _ (List.mem_of_getElem? e)
  have huniq : ∀ (q q' b : Nat) (cs cs' : List SV), σ[q]? = some (b, cs) → σ[q']? = some (b, cs') → q = q' := by
    intro q q' b cs cs' e e'
    have h1 := (List.getElem?_eq_some_iff.1 e).1
    have h2 : (σ.map (·.1))[q]? = (σ.map (·.1))[q']? := by simp [e, e']
    exact (List.getElem?_inj (by simpa using h1) hnd).1 h2
  have hname2 : ∀ b b' k, nameN σ 1000 b = some b' → β b = some k → βc b' = some k := by
    intro b b' k e e2
    obtain ⟨q, cs, rfl, h2⟩ := nameN_spec e
    rw [hβq q b cs h2]; exact e2
  have hMine : ∀ k, (∃ i, βc i = some k) → Mine M w0 k := by
    rintro k ⟨i, e⟩
    obtain ⟨q, b, cs, -, h2, h3⟩ := hβc i k e
    exact (hw.mine _ _ h3).1
  have hpget : ∀ i pc, (treeOf 1000 (ct.pre x) .nil).get i none = some pc → ∃ q b cs, i = 1000 + q ∧ σ[q]? = some (b, cs) ∧ subC (nmW.nmsW (nameN σ 1000) (fun _ => none) cs) pc := by
    intro i pc e
    rw [treeOf_get _ _ _ _ (by omega)] at e
    by_cases c : 1000 ≤ i ∧ i < 1000 + (ct.pre x).length
    · rw [if_pos c] at e
      have hq : i - 1000 < (ct.pre x).length := by omega
      rw [at'_get _ _ _ (by simpa using hq), List.getElem_map] at e
      have h2 : (ct.pre x)[i - 1000]? = some pc := by rw [List.getElem?_eq_getElem hq]; exact e
      obtain ⟨y, h3, h4⟩ := hpsub _ _ h2
      have hσ : i - 1000 < σ.length := by omega
      obtain ⟨⟨b, cs⟩, h5⟩ : ∃ p, σ[i - 1000]? = some p := ⟨_, List.getElem?_eq_getElem hσ⟩
      refine ⟨i - 1000, b, cs, by omega, h5, ?_⟩
      rw [namedL_at _ σ _ b cs h5] at h3
      cases h3; exact h4
    · rw [if_neg c] at e; cases e
  have hβ10 : ∀ i k, βc i = some k → i < 10000 := fun i k e => by
    obtain ⟨q, b, cs, rfl, h2, -⟩ := hβc i k e
    have := (List.getElem?_eq_some_iff.1 h2).1
    omega
  have hmB : mB βc noB = βc := by
    funext i
    unfold mB
    by_cases c : 10000 ≤ i
    · rw [if_pos c]
      cases h : βc i with
      | none => rfl
      | some k => have := hβ10 i k h; omega
    · rw [if_neg c]
  have hWc : W (mB βc noB) w H H βc noT (treeOf 1000 (ct.pre x) .nil) w := by
    rw [hmB]
    refine ⟨fun b q v e => ⟨(hw.lies b q v e).1, rfl⟩, ?_, ?_, ?_, fun _ _ _ e => (by cases e), fun _ _ _ e => (by cases e), fun i k e => ?_, ?_, fun i k e => ⟨.inl ⟨i, e⟩, fun c => by obtain ⟨q, _, _, h, -⟩ := hβc i k e; omega⟩, fun i _ e => e, ⟨rfl, rfl, rfl, Nat.le_refl _, fun _ _ _ => rfl, fun _ _ => rfl⟩, .refl _, fun _ _ _ => .inr rfl, fun k e => by
      obtain ⟨i, e⟩ := e
      obtain ⟨q, b, cs, -, -, h⟩ := hβc i k (e.elim (fun e => e) (fun e => e.2.1))
      exact hw.edge _ ⟨_, .inl h⟩, fun X e => by
      obtain ⟨q, b, cs, h1, h2, -⟩ := hpget _ _ e
      have := (List.getElem?_eq_some_iff.1 h2).1
      omega⟩
    · intro i pc e hl
      obtain ⟨q, b, cs, rfl, h2, h3⟩ := hpget i pc e
      obtain ⟨h7, h8, -⟩ := subC_spec h3
      rw [xlen_nm] at h7
      obtain ⟨kk, h4, h5, h6⟩ := hw.box b cs (hmem q b cs h2) (by omega)
      refine ⟨kk, by rw [hβq q b cs h2]; exact h4, .inl ⟨1000 + q, by rw [hβq q b cs h2]; exact h4⟩, fun j hj => ?_⟩
      obtain ⟨a1, a2, a3, v, a4, a5⟩ := h6 j (by omega)
      refine ⟨a1, rfl, a3, v, a4, ?_⟩
      exact h8 j hj (xat_nm (ow := fun _ => none) (T' := noT) hname2 (fun _ _ e => by cases e) (fun X sz c d l ee => hw.many _ _ _ _ _ _ (by rw [hmem q b cs h2, ee])) (by omega) a5)
    · intro i kk e
      obtain ⟨q, b, cs, rfl, h2, h3⟩ := hβc i kk e
      refine ⟨(hw.bβ _ _ h3).1, ?_⟩
      have hq : q < (ct.pre x).length := by have := (List.getElem?_eq_some_iff.1 h2).1; omega
      refine ⟨(ct.pre x)[q], ?_⟩
      rw [treeOf_get _ _ _ _ (by omega), if_pos ⟨by omega, by omega⟩, show 1000 + q - 1000 = q by omega, at'_get _ _ _ (by simpa using hq), List.getElem_map]
    · intro i j kk e1 e2
      obtain ⟨q, b, cs, rfl, h2, h3⟩ := hβc i kk e1
      obtain ⟨q', b', cs', rfl, h2', h3'⟩ := hβc j kk e2
      obtain rfl := hw.inj _ _ _ h3 h3'
      rw [huniq q q' b cs cs' h2 h2']
    · obtain ⟨q, b, cs, rfl, h2, h3⟩ := hβc i k e
      exact ⟨by omega, fun k' e' => by rw [e] at e'; exact (Option.some.inj e').symm⟩
    · intro i X sz c dd l e
      obtain ⟨q, b, cs, rfl, h2, h3⟩ := hpget i _ e
      have := (subC_spec h3).2.2 _ _ _ _ _ rfl
      have := many_nm this
      exact hw.many _ _ _ _ _ _ (by rw [hmem q b cs h2, this])
  have hargs : ∀ j, j < (ct.enc x).length → G H βc noT (at' (ct.enc x) j .junk) (vs.getD j undef) := by
    intro j hj
    have := nmW_G (ow := fun _ => none) (T' := noT) hname2 (fun _ _ e => by cases e) (hvg j (by omega))
    rw [← nmsW_at] at this
    exact this.sub (hsub j hj)
  have hcalls := hsound x H βc noT noB w vs d hd (fun _ _ _ _ e => by cases e) hWc (GlOk.ctrB hE hw.ext hw.keep hct) (by omega) hargs
  unfold Oper.wp
  rw [hrun]
  simp only [Oper.upon]
  refine hcalls.mono ?_
  rintro e w' ⟨v, H', β', T', rfl, hW', hbeta, hfreshb, hnoneb, hg⟩
  obtain ⟨bx2, rfl, -, hle, hpost, hrest⟩ := backK_spec σ _ s.bx _ hnd (fun p hp => has_of_get (hseen p hp)) hback
  have hkeep : Keeps βc w w' := ⟨hW'.keep.os, hW'.keep.tape, hW'.keep.output, hW'.keep.size, fun k hk hno => hW'.keep.block k hk fun ⟨i, e⟩ => by
    rcases mB_some e with ⟨-, e⟩ | ⟨-, e⟩
    case inr => cases e
    unfold newM at e
    by_cases c : i < 1000 + (ct.pre x).length
    · rw [if_pos c] at e; exact hno ⟨i, e⟩
    · rw [if_neg c] at e
      have : βc i = none := by
        cases h : βc i with
        | none => rfl
        | some k' =>
          obtain ⟨q, b, cs, rfl, h2, -⟩ := hβc i k' h
          have := (List.getElem?_eq_some_iff.1 h2).1
          omega
      have := hfreshb i k this e
      omega, hW'.keep.shape⟩
  have hold : ∀ b q, b < w.heap.size → H' b q = H b q := fun b q h => (hW'.fresh b q h).elim (fun ⟨i, h1, h2⟩ => by rw [mB_hi h1] at h2; cases h2) (fun e => e)
  have hbx : ∀ (q : Nat) (p : List SV), (ct.post x d)[q]? = some p → (treeOf 1000 (ct.post x d) .nil).get (1000 + q) none = some p := by
    intro q p e
    have hq := (List.getElem?_eq_some_iff.1 e).1
    have hps : (ct.post x d).length ≤ σ.length + 1 := by rcases hrest with h | h <;> omega
    rw [treeOf_get _ _ _ _ (by omega), if_pos ⟨by omega, by omega⟩, show 1000 + q - 1000 = q by omega, at'_get _ _ _ (by simpa using hq), List.getElem_map]
    rw [List.getElem?_eq_getElem hq] at e
    exact e
  have hbxn : ∀ i p, (treeOf 1000 (ct.post x d) .nil).get i none = some p → ∃ q, i = 1000 + q ∧ (ct.post x d)[q]? = some p := by
    intro i p e
    have hps : (ct.post x d).length ≤ σ.length + 1 := by rcases hrest with h | h <;> omega
    rw [treeOf_get _ _ _ _ (by omega)] at e
    by_cases c : 1000 ≤ i ∧ i < 1000 + (ct.post x d).length
    · rw [if_pos c] at e
      have hq : i - 1000 < (ct.post x d).length := by omega
      rw [at'_get _ _ _ (by simpa using hq), List.getElem_map] at e
      exact ⟨i - 1000, by omega, by rw [List.getElem?_eq_getElem hq]; exact e⟩
    · rw [if_neg c] at e; cases e
  let T2 : TM := fun b q => if b < w.heap.size then T b q else T' b q
  have hT2o : ∀ b q, b < w.heap.size → T2 b q = T b q := fun b q h => if_pos h
  have hT2n : ∀ b q, ¬ b < w.heap.size → T2 b q = T' b q := fun b q h => if_neg h
  have hTl : TLe T T2 := fun b q i e => by
    obtain ⟨_, h2, _⟩ := hw.tail _ _ _ e
    obtain ⟨u, hu⟩ := Option.isSome_iff_exists.1 h2
    rw [hT2o _ _ (cell_lt hu)]; exact e
  have hT' : ∀ b q i, T' b q = some i → w.heap.size ≤ b := fun b q i e => (hW'.tail b q i e).1.elim (fun ⟨i, h1, h2⟩ => by rw [mB_hi h1] at h2; cases h2) (fun e => e)
  -- the caller's variables
  have hdσ : ∀ (h : (ct.post x d).length = σ.length + 1), d < 1000 ∧ d ∉ σ.map (·.1) ∧ s.bx.get d none = none ∧ β d = none := by
    intro h
    rcases hrest with ⟨e, -⟩ | ⟨-, h1, ⟨h2, -⟩, h3, -⟩
    · omega
    · refine ⟨h1, h3, h2 h3, ?_⟩
      cases hb : β d with
      | none => rfl
      | some kk => obtain ⟨-, cs, h4⟩ := hw.bβ d kk hb; rw [h2 h3] at h4; cases h4
  let β2 : BM := fun b => if b = d ∧ (ct.post x d).length = σ.length + 1 then β' (1000 + σ.length) else β b
  have hβ2d : (ct.post x d).length = σ.length + 1 → β2 d = β' (1000 + σ.length) := fun h => if_pos ⟨rfl, h⟩
  have hβ2o : ∀ b, ¬ (b = d ∧ (ct.post x d).length = σ.length + 1) → β2 b = β b := fun b h => if_neg h
  have hbl : BLe β β2 := fun b kk e => by
    rw [hβ2o b (fun c => by have := (hdσ c.2).2.2.2; rw [← c.1, e] at this; cases this)]; exact e
  have hβ2 : ∀ b kk, β2 b = some kk → (b = d ∧ (ct.post x d).length = σ.length + 1 ∧ β' (1000 + σ.length) = some kk ∧ w.heap.size ≤ kk) ∨ (¬ (b = d ∧ (ct.post x d).length = σ.length + 1) ∧ β b = some kk) := by
    intro b kk e
    by_cases c : b = d ∧ (ct.post x d).length = σ.length + 1
    · have e2 : β' (1000 + σ.length) = some kk := by have h := e; simp only [β2] at h; rw [if_pos c] at h; exact h
      refine .inl ⟨c.1, c.2, e2, ?_⟩
      refine hfreshb _ _ ?_ e2
      simp [βc]
    · rw [hβ2o b c] at e; exact .inr ⟨c, e⟩
  have hbk : ∀ b b' kk, backN σ d 1000 b = some b' → β' b = some kk → β2 b' = some kk := by
    intro b b' kk e e2
    rcases backN_spec e with ⟨q, cs, rfl, h2⟩ | ⟨rfl, rfl⟩
    · cases h4 : β b' with
      | none =>
        have hq := (List.getElem?_eq_some_iff.1 h2).1
        rw [hnoneb (1000 + q) (by omega) (by omega) (by rw [hβq q b' cs h2]; exact h4)] at e2
        cases e2
      | some k0 =>
        have h7 := hbeta (1000 + q) k0 (by rw [hβq q b' cs h2]; exact h4)
        rw [h7] at e2
        cases e2
        exact hbl _ _ h4
    · by_cases c : (ct.post x b').length = σ.length + 1
      · rw [hβ2d c]; exact e2
      · exfalso
        obtain ⟨-, p, h2⟩ := hW'.bβ _ _ e2
        obtain ⟨q, h3, h4⟩ := hbxn _ _ h2
        have := (List.getElem?_eq_some_iff.1 h4).1
        rcases hrest with h | h <;> omega
  have hTT : ∀ i i', some i = some i' → ∀ b q, T' b q = some i → T2 b q = some i' := by
    intro i i' e b q e2
    cases e
    rw [hT2n _ _ (by have := hT' _ _ _ e2; omega)]; exact e2
  have hnot : ∀ id cs kk, s.bx.get id none = some cs → id ∉ σ.map (·.1) → β id = some kk → ¬ ∃ i, βc i = some kk := by
    rintro id cs kk h1 h2 h3 ⟨i, e⟩
    obtain ⟨q, b, cs', -, h4, h5⟩ := hβc i kk e
    obtain rfl := hw.inj _ _ _ h3 h5
    exact h2 (List.mem_map.2 ⟨(id, cs'), List.mem_of_getElem? h4, rfl⟩)
  refine hn _ _ v H' β2 T2 w' hk (hf.mono hW'.ext hbl hTl) ?_ (nmW_G hbk hTT hg)
  have h9 : 9999 ∉ σ.map (·.1) := fun c => by
    obtain ⟨p, hp, h⟩ := List.mem_map.1 c
    have := backK_lt _ _ _ _ hback p hp
    omega
  refine ⟨?_, ?_, ?_, ?_, ?_, ?_, ?_, ?_, ?_, ?_, hw.keep.trans hkeep hMine, hw.ext.trans hW'.ext, ?_, fun kk e => ?_, fun X e => ?_⟩
  · intro b q u e
    refine ⟨(hW'.lies b q u e).1, ?_⟩
    by_cases hlt : b < w.heap.size
    · rw [hT2o _ _ hlt]; rw [hold b q hlt] at e; exact (hw.lies b q u e).2
    · rw [hT2n _ _ hlt]; exact (hW'.lies b q u e).2
  · -- boxes
    intro id cs e hl
    by_cases hid : id ∈ σ.map (·.1)
    · obtain ⟨⟨b, cs0⟩, h1, rfl⟩ := List.mem_map.1 hid
      obtain ⟨q, hq⟩ := List.getElem?_of_mem h1
      obtain ⟨p, h2, h3⟩ := hpost q b cs0 hq
      simp only at e
      rw [h3] at e
      obtain rfl := Option.some.inj e
      rw [xlen_nm] at hl
      obtain ⟨k1, h7, h8, h9⟩ := hW'.box (1000 + q) p (hbx q p h2) hl
      have h4 : β b = some k1 := by
        cases h4 : β b with
        | none =>
          have hq2 := (List.getElem?_eq_some_iff.1 hq).1
          rw [hnoneb (1000 + q) (by omega) (by omega) (by rw [hβq q b cs0 hq]; exact h4)] at h7
          cases h7
        | some k0 =>
          have := hbeta (1000 + q) k0 (by rw [hβq q b cs0 hq]; exact h4)
          rw [this] at h7; exact h7
      refine ⟨k1, hbl _ _ h4, (hw.mine _ _ h4).1, fun j hj => ?_⟩
      rw [xlen_nm] at hj
      obtain ⟨a1, a2, a3, v, a4, a5⟩ := h9 j hj
      refine ⟨a1, ?_, a3, v, a4, xat_nm hbk hTT (fun X sz c d l ee => hW'.many _ _ _ _ _ _ (by rw [hbx q p h2, ee])) hj a5⟩
      rw [hT2o _ _ (hw.bβ _ _ h4).1]
      cases ht : T k1 j with
      | none => rfl
      | some i => exact absurd h4 (hw.sep _ _ _ ht b)
    · by_cases hc : id = d ∧ (ct.post x d).length = σ.length + 1
      · obtain ⟨rfl, hc⟩ := hc
        rcases hrest with ⟨e2, -⟩ | ⟨-, -, ⟨-, p, h2, h3⟩, -, -⟩
        · omega
        · rw [h3] at e
          obtain rfl := Option.some.inj e
          rw [xlen_nm] at hl
          obtain ⟨k1, h7, h8, h9⟩ := hW'.box (1000 + σ.length) p (hbx _ p h2) hl
          have hsz : w.heap.size ≤ k1 := hfreshb _ _ (by simp [βc]) h7
          refine ⟨k1, by rw [hβ2d hc]; exact h7, .inr (Nat.le_trans hw.keep.size hsz), fun j hj => ?_⟩
          rw [xlen_nm] at hj
          obtain ⟨a1, a2, a3, v, a4, a5⟩ := h9 j hj
          exact ⟨a1, by rw [hT2n _ _ (by omega)]; exact a2, a3, v, a4, xat_nm hbk hTT (fun X sz c d l ee => hW'.many _ _ _ _ _ _ (by rw [hbx _ p h2, ee])) hj a5⟩
      · have e2 : s.bx.get id none = some cs := by
          rcases hrest with ⟨-, h⟩ | ⟨h0, -, -, -, h⟩
          · rw [h id hid] at e; exact e
          · rw [h id hid (fun c => hc ⟨c, h0⟩)] at e; exact e
        obtain ⟨kk, h4, h5, h6⟩ := hw.box id cs e2 hl
        have hlt := (hw.bβ _ _ h4).1
        have hno := hnot id cs kk e2 hid h4
        refine ⟨kk, hbl _ _ h4, h5, fun j hj => ?_⟩
        obtain ⟨a1, a2, a3, v, a4, a5⟩ := h6 j hj
        obtain ⟨c1, c2⟩ := hkeep.cell hlt hno j
        exact ⟨by rw [hold _ _ hlt]; exact a1, by rw [hT2o _ _ hlt]; exact a2, by rw [c2]; exact a3, v, by rw [c1]; exact a4, a5.mono hW'.ext hbl hTl⟩
  · -- each is there
    intro id kk e
    rcases hβ2 id kk e with ⟨rfl, hc, h1, -⟩ | ⟨hc, h1⟩
    · refine ⟨(hW'.bβ _ _ h1).1, ?_⟩
      rcases hrest with ⟨e2, -⟩ | ⟨-, -, ⟨-, p, h2, h3⟩, -, -⟩
      · omega
      · exact ⟨_, h3⟩
    · obtain ⟨h2, cs, h3⟩ := hw.bβ _ _ h1
      refine ⟨Nat.lt_of_lt_of_le h2 hW'.keep.size, ?_⟩
      by_cases hid : id ∈ σ.map (·.1)
      · obtain ⟨⟨b, cs0⟩, h4, rfl⟩ := List.mem_map.1 hid
        obtain ⟨q, hq⟩ := List.getElem?_of_mem h4
        obtain ⟨p, -, h5⟩ := hpost q b cs0 hq
        exact ⟨_, h5⟩
      · refine ⟨cs, ?_⟩
        rcases hrest with ⟨-, h⟩ | ⟨h0, -, -, -, h⟩
        · rw [h id hid]; exact h3
        · rw [h id hid (fun c => hc ⟨c, h0⟩)]; exact h3
  · intro i j kk e1 e2
    rcases hβ2 i kk e1 with ⟨rfl, hc, h1, h1'⟩ | ⟨hc, h1⟩ <;> rcases hβ2 j kk e2 with ⟨rfl, hc2, h2, h2'⟩ | ⟨hc2, h2⟩
    · rfl
    · have := (hw.bβ _ _ h2).1; omega
    · have := (hw.bβ _ _ h1).1; omega
    · exact hw.inj _ _ _ h1 h2
  · intro b q i e
    by_cases hlt : b < w.heap.size
    · rw [hT2o _ _ hlt] at e
      obtain ⟨a1, a2, a3⟩ := hw.tail b q i e
      have hno : ¬ ∃ i, βc i = some b := by
        rintro ⟨i', e'⟩
        obtain ⟨_, b', _, -, -, h5⟩ := hβc i' b e'
        exact hw.sep _ _ _ e _ h5
      obtain ⟨c1, c2⟩ := hkeep.cell hlt hno q
      exact ⟨a1, by rw [c1]; exact a2, by rw [c2]; exact a3⟩
    · rw [hT2n _ _ hlt] at e
      obtain ⟨-, a2, a3⟩ := hW'.tail b q i e
      exact ⟨.inr (Nat.le_trans hw.keep.size (hT' _ _ _ e)), a2, a3⟩
  · intro b q i e j c
    by_cases hlt : b < w.heap.size
    · rw [hT2o _ _ hlt] at e
      rcases hβ2 j b c with ⟨-, -, -, h1⟩ | ⟨-, h1⟩
      · omega
      · exact hw.sep _ _ _ e _ h1
    · rw [hT2n _ _ hlt] at e
      rcases hβ2 j b c with ⟨-, -, h1, -⟩ | ⟨-, h1⟩
      · exact hW'.sep _ _ _ e _ h1
      · have := (hw.bβ _ _ h1).1; omega
  · intro i kk e
    refine ⟨(hw.hand i kk e).1, fun k' c => ?_⟩
    rcases hβ2 i k' c with ⟨rfl, hc, -, -⟩ | ⟨-, h1⟩
    · have := (hw.hand i kk e).1; have := (hdσ hc).1; omega
    · exact (hw.hand i kk e).2 _ h1
  · intro id X sz c dd l e
    by_cases hid : id ∈ σ.map (·.1)
    · obtain ⟨⟨b, cs0⟩, h1, rfl⟩ := List.mem_map.1 hid
      obtain ⟨q, hq⟩ := List.getElem?_of_mem h1
      obtain ⟨p, h2, h3⟩ := hpost q b cs0 hq
      simp only at e
      rw [h3] at e
      exact hW'.many _ _ _ _ _ _ (by rw [hbx q p h2, many_nm (Option.some.inj e)])
    · by_cases hc : id = d ∧ (ct.post x d).length = σ.length + 1
      · obtain ⟨rfl, hc⟩ := hc
        rcases hrest with ⟨e2, -⟩ | ⟨-, -, ⟨-, p, h2, h3⟩, -, -⟩
        · omega
        · rw [h3] at e
          exact hW'.many _ _ _ _ _ _ (by rw [hbx _ p h2, many_nm (Option.some.inj e)])
      · have e2 : s.bx.get id none = some [.many X sz c dd l] := by
          rcases hrest with ⟨-, h⟩ | ⟨h0, -, -, -, h⟩
          · rw [h id hid] at e; exact e
          · rw [h id hid (fun c => hc ⟨c, h0⟩)] at e; exact e
        exact hw.many _ _ _ _ _ _ e2
  · intro id kk e
    rcases hβ2 id kk e with ⟨-, -, -, h1⟩ | ⟨-, h1⟩
    · exact ⟨.inr (Nat.le_trans hw.keep.size h1), fun _ => Nat.le_trans hw.keep.size h1⟩
    · exact hw.mine _ _ h1
  · intro i h1 h2
    rw [hβ2o i (fun c => by have := (hdσ c.2).1; omega)]
    exact hw.out i h1 h2
  · intro b q hm
    rw [hold b q (by have := hw.keep.size; omega)]
    exact hw.fresh b q hm
  · have old : (∃ i, β i = some kk ∨ (i < 10000 ∧ M i = some kk ∧ kk < w0.heap.size ∧ ∀ j, 10000 ≤ j → M j ≠ some kk)) → Edge w' kk := fun h1 => by
      by_cases hc : ∃ i, βc i = some kk
      · obtain ⟨i, hi⟩ := hc
        exact hW'.edge kk ⟨i, .inl (hbeta i kk hi)⟩
      · have he := hw.edge kk h1
        exact ⟨Nat.lt_of_lt_of_le he.1 hkeep.size, fun c t lo hi q => he.2 c t lo hi (by rw [← hkeep.block kk he.1 hc]; exact q)⟩
    obtain ⟨id, e | e⟩ := e
    · rcases hβ2 id kk e with ⟨-, -, h1, -⟩ | ⟨-, h1⟩
      · exact hW'.edge _ ⟨_, .inl h1⟩
      · exact old ⟨_, .inl h1⟩
    · exact old ⟨_, .inr e⟩
  · have e2 : s.bx.get 9999 none = some (sideB X) := by
      rcases hrest with ⟨-, h⟩ | ⟨-, hd10, -, -, h⟩
      · rw [h 9999 h9] at e; exact e
      · rw [h 9999 h9 (by omega)] at e; exact e
    refine (hw.side X e2).of (fun k hk hb => hkeep.block k hk ?_) (fun k hk hb => ⟨fun i c => ?_, fun o => ⟨?_, ?_⟩⟩)
    · rintro ⟨i, c⟩
      obtain ⟨q, b, cs, -, -, h3⟩ := hβc i k c
      exact ((hw.side X e2).2 k hb).1 b h3
    · rcases hβ2 i k c with ⟨-, -, -, h1⟩ | ⟨-, h1⟩
      · omega
      · exact ((hw.side X e2).2 k hb).1 i h1
    · rw [hold k o hk]; exact (((hw.side X e2).2 k hb).2.1 o).1
    · rw [hT2o _ _ hk]; exact (((hw.side X e2).2 k hb).2.1 o).2

theorem bareT_get : ∀ (t : Tr SV) (q : Nat), (bareT t).get q .junk = bare (t.get q .junk)
  | .nil, _ => rfl
  | .node v l r, 0 => rfl
  | .node v l r, q + 1 => by
    simp only [bareT, Tr.get]
    rcases Tr.half q with ⟨e, -⟩ | ⟨e, -⟩ <;> rw [e]
    · exact bareT_get l _
    · exact bareT_get r _
theorem bareT_has : ∀ (t : Tr SV) (q : Nat), (bareT t).has q = t.has q
  | .nil, _ => rfl
  | .node v l r, 0 => rfl
  | .node v l r, q + 1 => by
    simp only [bareT, Tr.has]
    rcases Tr.half q with ⟨e, -⟩ | ⟨e, -⟩ <;> rw [e]
    · exact bareT_has l _
    · exact bareT_has r _
theorem bareB_get : ∀ (t : Tr (Option (List SV))) (q : Nat), (bareB t).get q none = (t.get q none).map (nmW.nmsW some (fun _ => none))
  | .nil, _ => rfl
  | .node v l r, 0 => rfl
  | .node v l r, q + 1 => by
    simp only [bareB, Tr.get]
    rcases Tr.half q with ⟨e, -⟩ | ⟨e, -⟩ <;> rw [e]
    · exact bareB_get l _
    · exact bareB_get r _
theorem bareB_has : ∀ (t : Tr (Option (List SV))) (q : Nat), (bareB t).has q = t.has q
  | .nil, _ => rfl
  | .node v l r, 0 => rfl
  | .node v l r, q + 1 => by
    simp only [bareB, Tr.has]
    rcases Tr.half q with ⟨e, -⟩ | ⟨e, -⟩ <;> rw [e]
    · exact bareB_has l _
    · exact bareB_has r _
theorem bareTK_eq : ∀ (t : Tr SV) (k : Tr SV → Prop), bareTK t k = k (bareT t)
  | .nil, _ => rfl
  | .node v l r, k => by simp only [bareTK, bareT, force_eq, bareTK_eq l, bareTK_eq r]
theorem bareBK_eq : ∀ (t : Tr (Option (List SV))) (k : Tr (Option (List SV)) → Prop), bareBK t k = k (bareB t)
  | .nil, _ => rfl
  | .node v l r, k => by cases v <;> simp only [bareBK, bareB, forceL_eq, bareBK_eq l, bareBK_eq r, Option.map]
theorem namedW_length (f ow : Nat → Option Nat) : ∀ σ : List (Nat × List SV), (namedW f ow σ).length = σ.length
  | [] => rfl
  | (_, _) :: r => by simp [namedW, namedW_length f ow r]
theorem namedW_at (f ow : Nat → Option Nat) : ∀ (σ : List (Nat × List SV)) (q b : Nat) (cs : List SV), σ[q]? = some (b, cs) → (namedW f ow σ)[q]? = some (nmW.nmsW f ow cs)
  | (_, _) :: r, 0, b, cs, h => by simp at h; obtain ⟨rfl, rfl⟩ := h; rfl
  | (_, _) :: r, q + 1, b, cs, h => namedW_at f ow r q b cs h
theorem ownK_rel {d : Nat} {s : ASt} {c : CtrB} {l : List SV} {k : ASt → Prop} (h : ownK d c l s k) :
    ∃ (σ : List (Nat × List SV)) (x : c.A) (bx' : Tr (Option (List SV))), (Seen s.bx σ ∧ σ.length ≤ 8) ∧ SubL (nmW.nmsW (nameN σ 1000) (ownA l σ) l) (c.enc x) ∧ subLL (namedW (nameN σ 1000) (ownA l σ) σ) (c.pre x) ∧ c.dom x ∧
      backK (backN σ d 1000) d σ (c.post x d) (bareB s.bx) (fun b => b = bx') ∧ k ⟨(bareT s.fr).put d (nmW (backN σ d 1000) some (c.res x d)), bx'⟩ ∧
      ∀ k' : ASt → Prop, k' ⟨(bareT s.fr).put d (nmW (backN σ d 1000) some (c.res x d)), bx'⟩ → ownK d c l s k' := by
  obtain ⟨σ, h1, ⟨x, h2, h3, h4, h5⟩, h6, h9⟩ := seenK_rel 8 _ [] _ ⟨by simp, fun p hp => by simp at hp⟩ h
  rw [bareBK_eq] at h5
  obtain ⟨bx', h7, h8, -⟩ := backK_spec σ _ (bareB s.bx) _ h1.1 (fun p hp => by rw [bareB_has]; exact has_of_get (h1.2 p hp)) h5
  rw [force_eq, bareTK_eq, Tr.putK_eq] at h7
  exact ⟨σ, x, bx', ⟨h1, by simpa using h9⟩, h2, h3, h4, h8 _ rfl, h7, fun k' hk' => h6 _ ⟨x, h2, h3, h4, by rw [bareBK_eq]; exact h8 _ (by rw [force_eq, bareTK_eq, Tr.putK_eq]; exact hk')⟩⟩
/-- .. with rows of their own in them -/
theorem own_sound (hE : EnvOk P E) (hf : FR H β T s.fr a) (hw : W M w0 H0 H β T s.bx w) (f : Operand) (g : FuncId) (c : Call) (ho : o.op = .call c) (hc : c.callee = .value f) (hcf : ev s f = .fn g [])
    {ct : CtrB} (hct : E.ctrB g = some ct) (d : Nat) (hdst : o.dst = some d) {K : ASt → Prop} (hk : ownK d ct (c.args.toList.map (ev s)) s K) (hn : ∀ s' a' w', K s' → Rel M w0 H0 s' a' w' → next a' w') : o.wp P a w next Q := by
  obtain ⟨⟨fn, hfn, hname, hbody⟩, hsound⟩ := hE.ctrB g ct hct
  obtain ⟨σ, x, bx', ⟨⟨hnd, hseen⟩, hσ8⟩, hs, hpre, hd, hback, hk, -⟩ := ownK_rel hk
  obtain ⟨hlen, hsub⟩ := SubL_at hs
  obtain ⟨hplen, hpsub⟩ := subLL_spec hpre
  rw [namedW_length] at hplen
  rw [nmsW_length] at hlen
  obtain ⟨vs, hvn, hvg, hrun⟩ := call_enters (w := w) (P := P) hf f g [] c ho hc hcf hfn hname hbody
  rw [List.append_nil] at hvn hvg
  -- the callee's variables
  let βc : BM := fun i => if 1000 ≤ i then (σ[i - 1000]?).bind fun p => β p.1 else none
  have hβc : ∀ i k, βc i = some k → ∃ q b cs, i = 1000 + q ∧ σ[q]? = some (b, cs) ∧ β b = some k := by
    intro i k e
    simp only [βc] at e
    by_cases h1 : 1000 ≤ i
    · rw [if_pos h1] at e
      cases h2 : σ[i - 1000]? with
      | none => rw [h2] at e; cases e
      | some p => rw [h2] at e; exact ⟨i - 1000, p.1, p.2, by omega, h2, e⟩
    · rw [if_neg h1] at e; cases e
  have hβq : ∀ (q b : Nat) (cs : List SV), σ[q]? = some (b, cs) → βc (1000 + q) = β b := by
    intro q b cs e
    simp only [βc]
    rw [if_pos (by omega), show 1000 + q - 1000 = q by omega, e]; rfl
  have hmem : ∀ (q b : Nat) (cs : List SV), σ[q]? = some (b, cs) → s.bx.get b none = some cs := fun q b cs e => hseen _ (List.mem_of_getElem? e)
  have huniq : ∀ (q q' b : Nat) (cs cs' : List SV), σ[q]? = some (b, cs) → σ[q']? = some (b, cs') → q = q' := by
    intro q q' b cs cs' e e'
    have h1 := (List.getElem?_eq_some_iff.1 e).1
    have h2 : (σ.map (·.1))[q]? = (σ.map (·.1))[q']? := by simp [e, e']
    exact (List.getElem?_inj (by simpa using h1) hnd).1 h2
  have hname2 : ∀ b b' k, nameN σ 1000 b = some b' → β b = some k → βc b' = some k := by
    intro b b' k e e2
    obtain ⟨q, cs, rfl, h2⟩ := nameN_spec e
    rw [hβq q b cs h2]; exact e2
  have hMine : ∀ k, (∃ i, βc i = some k) → Mine M w0 k := by
    rintro k ⟨i, e⟩
    obtain ⟨q, b, cs, -, h2, h3⟩ := hβc i k e
    exact (hw.mine _ _ h3).1
  have hpget : ∀ i pc, (treeOf 1000 (ct.pre x) .nil).get i none = some pc → ∃ q b cs, i = 1000 + q ∧ σ[q]? = some (b, cs) ∧ subC (nmW.nmsW (nameN σ 1000) (ownA (c.args.toList.map (ev s)) σ) cs) pc := by
    intro i pc e
    rw [treeOf_get _ _ _ _ (by omega)] at e
    by_cases c : 1000 ≤ i ∧ i < 1000 + (ct.pre x).length
    · rw [if_pos c] at e
      have hq : i - 1000 < (ct.pre x).length := by omega
      rw [at'_get _ _ _ (by simpa using hq), List.getElem_map] at e
      have h2 : (ct.pre x)[i - 1000]? = some pc := by rw [List.getElem?_eq_getElem hq]; exact e
      obtain ⟨y, h3, h4⟩ := hpsub _ _ h2
      have hσ : i - 1000 < σ.length := by omega
      obtain ⟨⟨b, cs⟩, h5⟩ : ∃ p, σ[i - 1000]? = some p := ⟨_, List.getElem?_eq_getElem hσ⟩
      refine ⟨i - 1000, b, cs, by omega, h5, ?_⟩
      rw [namedW_at _ _ σ _ b cs h5] at h3
      cases h3; exact h4
    · rw [if_neg c] at e; cases e
  have hβ10 : ∀ i k, βc i = some k → i < 10000 := fun i k e => by
    obtain ⟨q, b, cs, rfl, h2, -⟩ := hβc i k e
    have := (List.getElem?_eq_some_iff.1 h2).1
    omega
  let Tc : TM := fun b q => (T b q).bind (ownA (c.args.toList.map (ev s)) σ)
  have hTc : ∀ i i', ownA (c.args.toList.map (ev s)) σ i = some i' → ∀ b q, T b q = some i → Tc b q = some i' := by
    intro i i' e b q e2
    show (T b q).bind _ = _
    rw [e2]; exact e
  have hTc2 : ∀ b q i, Tc b q = some i → ∃ i', T b q = some i' := by
    intro b q i e
    replace e : (T b q).bind (ownA (c.args.toList.map (ev s)) σ) = some i := e
    cases h : T b q with
    | none => rw [h] at e; cases e
    | some i' => exact ⟨i', rfl⟩
  let rb : BM := fun i => open Classical in if ∃ q i', T (i - 10000) q = some i' then some (i - 10000) else none
  have hrb : ∀ i k, rb i = some k → ∃ q i', T k q = some i' := by
    intro i k e
    simp only [rb] at e
    split at e
    · rename_i h; rw [← Option.some.inj e]; exact h
    · cases e
  have hrb2 : ∀ b q i, T b q = some i → ∃ j, 10000 ≤ j ∧ rb j = some b := by
    intro b q i e
    have e0 : 10000 + b - 10000 = b := Nat.add_sub_cancel_left ..
    refine ⟨10000 + b, Nat.le_add_right .., ?_⟩
    show (open Classical in if ∃ q i', T (10000 + b - 10000) q = some i' then some (10000 + b - 10000) else none) = some b
    rw [e0]; exact if_pos ⟨q, i, e⟩
  have hrsep : ∀ i j k, βc i = some k → rb j = some k → False := by
    intro i j k e1 e2
    obtain ⟨q, b, cs, -, -, h3⟩ := hβc i k e1
    obtain ⟨q', i', h4⟩ := hrb j k e2
    exact hw.sep _ _ _ h4 _ h3
  have hrMine : ∀ k, (∃ i, mB βc rb i = some k) → Mine M w0 k := by
    rintro k ⟨i, e⟩
    rcases mB_some e with ⟨-, e⟩ | ⟨-, e⟩
    · exact hMine k ⟨i, e⟩
    · obtain ⟨q, i', h⟩ := hrb _ _ e
      exact (hw.tail _ _ _ h).1.mine
  have hWc : W (mB βc rb) w H H βc Tc (treeOf 1000 (ct.pre x) .nil) w := by
    refine ⟨fun b q v e => ⟨(hw.lies b q v e).1, by show (T b q).bind _ = none; rw [(hw.lies b q v e).2]; rfl⟩, ?_, ?_, ?_, fun b q i e => ?_, fun b q i e j c => ?_, fun i k e => ?_, ?_, fun i k e => ⟨.inl ⟨i, by rw [mB_lo (hβ10 i k e)]; exact e⟩, fun c => by obtain ⟨q, _, _, h, -⟩ := hβc i k e; omega⟩, fun i _ e => (by cases h : βc i with | none => rfl | some k => rw [mB_lo (hβ10 i k h), h] at e; cases e), ⟨rfl, rfl, rfl, Nat.le_refl _, fun _ _ _ => rfl, fun _ _ => rfl⟩, .refl _, fun _ _ _ => .inr rfl, fun k e => by
      obtain ⟨i, e⟩ := e
      obtain ⟨q, b, cs, -, -, h⟩ := hβc i k (e.elim (fun e => e) (fun e => by exact (mB_lo (β := βc) (rb := rb) e.1) ▸ e.2.1))
      exact hw.edge _ ⟨_, .inl h⟩, fun X e => by
      obtain ⟨q, b, cs, h1, h2, -⟩ := hpget _ _ e
      have := (List.getElem?_eq_some_iff.1 h2).1
      omega⟩
    · intro i pc e hl
      obtain ⟨q, b, cs, rfl, h2, h3⟩ := hpget i pc e
      obtain ⟨h7, h8, -⟩ := subC_spec h3
      rw [xlen_nm] at h7
      obtain ⟨kk, h4, h5, h6⟩ := hw.box b cs (hmem q b cs h2) (by omega)
      refine ⟨kk, by rw [hβq q b cs h2]; exact h4, .inl ⟨1000 + q, by rw [mB_lo (by have := (List.getElem?_eq_some_iff.1 h2).1; omega), hβq q b cs h2]; exact h4⟩, fun j hj => ?_⟩
      obtain ⟨a1, a2, a3, v, a4, a5⟩ := h6 j (by omega)
      refine ⟨a1, by show (T kk j).bind _ = none; rw [a2]; rfl, a3, v, a4, ?_⟩
      exact h8 j hj (xat_nm (ow := ownA (c.args.toList.map (ev s)) σ) (T' := Tc) hname2 hTc (fun X sz c d l ee => hw.many _ _ _ _ _ _ (by rw [hmem q b cs h2, ee])) (by omega) a5)
    · intro i kk e
      obtain ⟨q, b, cs, rfl, h2, h3⟩ := hβc i kk e
      refine ⟨(hw.bβ _ _ h3).1, ?_⟩
      have hq : q < (ct.pre x).length := by have := (List.getElem?_eq_some_iff.1 h2).1; omega
      refine ⟨(ct.pre x)[q], ?_⟩
      rw [treeOf_get _ _ _ _ (by omega), if_pos ⟨by omega, by omega⟩, show 1000 + q - 1000 = q by omega, at'_get _ _ _ (by simpa using hq), List.getElem_map]
    · intro i j kk e1 e2
      obtain ⟨q, b, cs, rfl, h2, h3⟩ := hβc i kk e1
      obtain ⟨q', b', cs', rfl, h2', h3'⟩ := hβc j kk e2
      obtain rfl := hw.inj _ _ _ h3 h3'
      rw [huniq q q' b cs cs' h2 h2']
    · obtain ⟨i', e'⟩ := hTc2 b q i e
      obtain ⟨-, a2, a3⟩ := hw.tail _ _ _ e'
      obtain ⟨j, c1, c2⟩ := hrb2 b q i' e'
      exact ⟨.inl ⟨j, c1, by rw [mB_hi c1]; exact c2⟩, a2, a3⟩
    · obtain ⟨i', e'⟩ := hTc2 b q i e
      obtain ⟨q', b', cs, -, -, h3⟩ := hβc j b c
      exact hw.sep _ _ _ e' _ h3
    · rcases mB_some e with ⟨-, e⟩ | ⟨h10, -⟩
      · obtain ⟨q, b, cs, rfl, h2, h3⟩ := hβc i k e
        exact ⟨by omega, fun k' e' => by rw [e] at e'; exact (Option.some.inj e').symm⟩
      · exact ⟨by omega, fun k' e' => by have := hβ10 i k' e'; omega⟩
    · intro i X sz c dd l e
      obtain ⟨q, b, cs, rfl, h2, h3⟩ := hpget i _ e
      have := (subC_spec h3).2.2 _ _ _ _ _ rfl
      have := many_nm this
      exact hw.many _ _ _ _ _ _ (by rw [hmem q b cs h2, this])
  have hargs : ∀ j, j < (ct.enc x).length → G H βc Tc (at' (ct.enc x) j .junk) (vs.getD j undef) := by
    intro j hj
    have := nmW_G (ow := ownA (c.args.toList.map (ev s)) σ) (T' := Tc) hname2 hTc (hvg j (by omega))
    rw [← nmsW_at] at this
    exact this.sub (hsub j hj)
  have hcalls := hsound x H βc Tc rb w vs d hd hrsep hWc (GlOk.ctrB hE hw.ext hw.keep hct) (by omega) hargs
  unfold Oper.wp
  rw [hrun]
  simp only [Oper.upon]
  refine hcalls.mono ?_
  rintro e w' ⟨v, H', β', T', rfl, hW', hbeta, hfreshb, hnoneb, hg⟩
  obtain ⟨bx2, rfl, -, hle, hpost, hrest⟩ := backK_spec σ _ (bareB s.bx) _ hnd (fun p hp => by rw [bareB_has]; exact has_of_get (hseen p hp)) hback
  have hkeep : Keeps (mB βc rb) w w' := ⟨hW'.keep.os, hW'.keep.tape, hW'.keep.output, hW'.keep.size, fun k hk hno => hW'.keep.block k hk fun ⟨i, e⟩ => by
    rcases mB_some e with ⟨h10, e⟩ | ⟨h10, e⟩
    case inr => exact hno ⟨i, by rw [mB_hi h10]; exact e⟩
    unfold newM at e
    by_cases c : i < 1000 + (ct.pre x).length
    · rw [if_pos c] at e; exact hno ⟨i, by rw [mB_lo h10]; exact e⟩
    · rw [if_neg c] at e
      have : βc i = none := by
        cases h : βc i with
        | none => rfl
        | some k' =>
          obtain ⟨q, b, cs, rfl, h2, -⟩ := hβc i k' h
          have := (List.getElem?_eq_some_iff.1 h2).1
          omega
      have := hfreshb i k this e
      omega, hW'.keep.shape⟩
  have hold : ∀ b q, b < w.heap.size → (∃ q' i', T b q' = some i') ∨ H' b q = H b q := fun b q h => (hW'.fresh b q h).imp (fun ⟨i, h1, h2⟩ => by rw [mB_hi h1] at h2; exact hrb _ _ h2) (fun e => e)
  have hroom : ∀ b q i, T' b q = some i → (∃ q' i', T b q' = some i') ∨ w.heap.size ≤ b := fun b q i e => (hW'.tail b q i e).1.imp (fun ⟨i, h1, h2⟩ => by rw [mB_hi h1] at h2; exact hrb _ _ h2) (fun e => e)
  have hbx : ∀ (q : Nat) (p : List SV), (ct.post x d)[q]? = some p → (treeOf 1000 (ct.post x d) .nil).get (1000 + q) none = some p := by
    intro q p e
    have hq := (List.getElem?_eq_some_iff.1 e).1
    have hps : (ct.post x d).length ≤ σ.length + 1 := by rcases hrest with h | h <;> omega
    rw [treeOf_get _ _ _ _ (by omega), if_pos ⟨by omega, by omega⟩, show 1000 + q - 1000 = q by omega, at'_get _ _ _ (by simpa using hq), List.getElem_map]
    rw [List.getElem?_eq_getElem hq] at e
    exact e
  have hbxn : ∀ i p, (treeOf 1000 (ct.post x d) .nil).get i none = some p → ∃ q, i = 1000 + q ∧ (ct.post x d)[q]? = some p := by
    intro i p e
    have hps : (ct.post x d).length ≤ σ.length + 1 := by rcases hrest with h | h <;> omega
    rw [treeOf_get _ _ _ _ (by omega)] at e
    by_cases c : 1000 ≤ i ∧ i < 1000 + (ct.post x d).length
    · rw [if_pos c] at e
      have hq : i - 1000 < (ct.post x d).length := by omega
      rw [at'_get _ _ _ (by simpa using hq), List.getElem_map] at e
      exact ⟨i - 1000, by omega, by rw [List.getElem?_eq_getElem hq]; exact e⟩
    · rw [if_neg c] at e; cases e
  -- the caller's variables
  have hdσ : ∀ (h : (ct.post x d).length = σ.length + 1), d < 1000 ∧ d ∉ σ.map (·.1) ∧ s.bx.get d none = none ∧ β d = none := by
    intro h
    rcases hrest with ⟨e, -⟩ | ⟨-, h1, ⟨h2, -⟩, h3, -⟩
    · omega
    · have h2' : s.bx.get d none = none := by
        have := h2 h3
        rw [bareB_get] at this
        cases hg : s.bx.get d none with
        | none => rfl
        | some cs => rw [hg] at this; cases this
      refine ⟨h1, h3, h2', ?_⟩
      cases hb : β d with
      | none => rfl
      | some kk => obtain ⟨-, cs, h4⟩ := hw.bβ d kk hb; rw [h2'] at h4; cases h4
  let β2 : BM := fun b => if b = d ∧ (ct.post x d).length = σ.length + 1 then β' (1000 + σ.length) else β b
  have hβ2d : (ct.post x d).length = σ.length + 1 → β2 d = β' (1000 + σ.length) := fun h => if_pos ⟨rfl, h⟩
  have hβ2o : ∀ b, ¬ (b = d ∧ (ct.post x d).length = σ.length + 1) → β2 b = β b := fun b h => if_neg h
  have hbl : BLe β β2 := fun b kk e => by
    rw [hβ2o b (fun c => by have := (hdσ c.2).2.2.2; rw [← c.1, e] at this; cases this)]; exact e
  have hβ2 : ∀ b kk, β2 b = some kk → (b = d ∧ (ct.post x d).length = σ.length + 1 ∧ β' (1000 + σ.length) = some kk ∧ w.heap.size ≤ kk) ∨ (¬ (b = d ∧ (ct.post x d).length = σ.length + 1) ∧ β b = some kk) := by
    intro b kk e
    by_cases c : b = d ∧ (ct.post x d).length = σ.length + 1
    · have e2 : β' (1000 + σ.length) = some kk := by have h := e; simp only [β2] at h; rw [if_pos c] at h; exact h
      refine .inl ⟨c.1, c.2, e2, ?_⟩
      refine hfreshb _ _ ?_ e2
      simp [βc]
    · rw [hβ2o b c] at e; exact .inr ⟨c, e⟩
  have hbk : ∀ b b' kk, backN σ d 1000 b = some b' → β' b = some kk → β2 b' = some kk := by
    intro b b' kk e e2
    rcases backN_spec e with ⟨q, cs, rfl, h2⟩ | ⟨rfl, rfl⟩
    · cases h4 : β b' with
      | none =>
        have hq := (List.getElem?_eq_some_iff.1 h2).1
        rw [hnoneb (1000 + q) (by omega) (by omega) (by rw [hβq q b' cs h2]; exact h4)] at e2
        cases e2
      | some k0 =>
        have h7 := hbeta (1000 + q) k0 (by rw [hβq q b' cs h2]; exact h4)
        rw [h7] at e2
        cases e2
        exact hbl _ _ h4
    · by_cases c : (ct.post x b').length = σ.length + 1
      · rw [hβ2d c]; exact e2
      · exfalso
        obtain ⟨-, p, h2⟩ := hW'.bβ _ _ e2
        obtain ⟨q, h3, h4⟩ := hbxn _ _ h2
        have := (List.getElem?_eq_some_iff.1 h4).1
        rcases hrest with h | h <;> omega
  have hTT : ∀ i i', some i = some i' → ∀ b q, T' b q = some i → T' b q = some i' := fun i i' e b q e2 => e ▸ e2
  have hbare : ∀ b b' k, some b = some b' → β b = some k → β2 b' = some k := fun b b' k e e2 => by cases e; exact hbl _ _ e2
  have hboxr : ∀ id kk, β id = some kk → ∀ q i, T kk q ≠ some i := fun id kk e q i c => hw.sep _ _ _ c _ e
  have hnT : ∀ id kk j, β id = some kk → T' kk j = none := fun id kk j e => by
    cases h : T' kk j with
    | none => rfl
    | some i =>
      rcases hroom _ _ _ h with ⟨q', i', c⟩ | c
      · exact absurd c (hboxr id kk e q' i')
      · have := (hw.bβ _ _ e).1; omega
  have hnH : ∀ id kk j, β id = some kk → H' kk j = H kk j := fun id kk j e => (hold kk j (hw.bβ _ _ e).1).elim (fun ⟨q', i', c⟩ => absurd c (hboxr id kk e q' i')) (fun e => e)
  have hget : ∀ id cs, (bareB s.bx).get id none = some cs → ∃ ds, s.bx.get id none = some ds ∧ cs = nmW.nmsW some (fun _ => none) ds := by
    intro id cs e
    rw [bareB_get] at e
    cases h : s.bx.get id none with
    | none => rw [h] at e; cases e
    | some ds => rw [h] at e; exact ⟨ds, rfl, (Option.some.inj e).symm⟩
  have hnot : ∀ id cs kk, s.bx.get id none = some cs → id ∉ σ.map (·.1) → β id = some kk → ¬ ∃ i, βc i = some kk := by
    rintro id cs kk h1 h2 h3 ⟨i, e⟩
    obtain ⟨q, b, cs', -, h4, h5⟩ := hβc i kk e
    obtain rfl := hw.inj _ _ _ h3 h5
    exact h2 (List.mem_map.2 ⟨(id, cs'), List.mem_of_getElem? h4, rfl⟩)
  have hf2 : FR H' β2 T' (bareT s.fr) a := ⟨fun q e => hf.size q (by rwa [bareT_has] at e), hf.defers, fun q => by
    rw [bareT_get]
    exact nmW_G (ow := fun _ => none) hbare (fun _ _ e => by cases e) ((hf.val q).mono hW'.ext (.refl _) (.refl _))⟩
  refine hn _ _ _ hk ⟨H', β2, T', by rw [hdst]; exact hf2.put' (nmW_G hbk hTT hg) (some d), ?_⟩
  have h9 : 9999 ∉ σ.map (·.1) := fun c => by
    obtain ⟨p, hp, h⟩ := List.mem_map.1 c
    have := backK_lt _ _ _ _ hback p hp
    omega
  refine ⟨?_, ?_, ?_, ?_, ?_, ?_, ?_, ?_, ?_, ?_, hw.keep.trans hkeep hrMine, hw.ext.trans hW'.ext, ?_, fun kk e => ?_, fun X e => ?_⟩
  · intro b q u e
    exact hW'.lies b q u e
  · -- boxes
    intro id cs e hl
    by_cases hid : id ∈ σ.map (·.1)
    · obtain ⟨⟨b, cs0⟩, h1, rfl⟩ := List.mem_map.1 hid
      obtain ⟨q, hq⟩ := List.getElem?_of_mem h1
      obtain ⟨p, h2, h3⟩ := hpost q b cs0 hq
      simp only at e
      rw [h3] at e
      obtain rfl := Option.some.inj e
      rw [xlen_nm] at hl
      obtain ⟨k1, h7, h8, h9⟩ := hW'.box (1000 + q) p (hbx q p h2) hl
      have h4 : β b = some k1 := by
        cases h4 : β b with
        | none =>
          have hq2 := (List.getElem?_eq_some_iff.1 hq).1
          rw [hnoneb (1000 + q) (by omega) (by omega) (by rw [hβq q b cs0 hq]; exact h4)] at h7
          cases h7
        | some k0 =>
          have := hbeta (1000 + q) k0 (by rw [hβq q b cs0 hq]; exact h4)
          rw [this] at h7; exact h7
      refine ⟨k1, hbl _ _ h4, (hw.mine _ _ h4).1, fun j hj => ?_⟩
      rw [xlen_nm] at hj
      obtain ⟨a1, a2, a3, v, a4, a5⟩ := h9 j hj
      exact ⟨a1, a2, a3, v, a4, xat_nm hbk hTT (fun X sz c d l ee => hW'.many _ _ _ _ _ _ (by rw [hbx q p h2, ee])) hj a5⟩
    · by_cases hc : id = d ∧ (ct.post x d).length = σ.length + 1
      · obtain ⟨rfl, hc⟩ := hc
        rcases hrest with ⟨e2, -⟩ | ⟨-, -, ⟨-, p, h2, h3⟩, -, -⟩
        · omega
        · rw [h3] at e
          obtain rfl := Option.some.inj e
          rw [xlen_nm] at hl
          obtain ⟨k1, h7, h8, h9⟩ := hW'.box (1000 + σ.length) p (hbx _ p h2) hl
          have hsz : w.heap.size ≤ k1 := hfreshb _ _ (by simp [βc]) h7
          refine ⟨k1, by rw [hβ2d hc]; exact h7, .inr (Nat.le_trans hw.keep.size hsz), fun j hj => ?_⟩
          rw [xlen_nm] at hj
          obtain ⟨a1, a2, a3, v, a4, a5⟩ := h9 j hj
          exact ⟨a1, a2, a3, v, a4, xat_nm hbk hTT (fun X sz c d l ee => hW'.many _ _ _ _ _ _ (by rw [hbx _ p h2, ee])) hj a5⟩
      · have e1 : (bareB s.bx).get id none = some cs := by
          rcases hrest with ⟨-, h⟩ | ⟨h0, -, -, -, h⟩
          · rw [h id hid] at e; exact e
          · rw [h id hid (fun c => hc ⟨c, h0⟩)] at e; exact e
        obtain ⟨ds, e2, rfl⟩ := hget id cs e1
        rw [xlen_nm] at hl
        obtain ⟨kk, h4, h5, h6⟩ := hw.box id ds e2 hl
        have hlt := (hw.bβ _ _ h4).1
        have hno : ¬ ∃ i, mB βc rb i = some kk := by
          rintro ⟨i, e⟩
          rcases mB_some e with ⟨-, e⟩ | ⟨-, e⟩
          · exact hnot id ds kk e2 hid h4 ⟨i, e⟩
          · obtain ⟨q', i', c⟩ := hrb _ _ e
            exact hboxr id kk h4 q' i' c
        refine ⟨kk, hbl _ _ h4, h5, fun j hj => ?_⟩
        rw [xlen_nm] at hj
        obtain ⟨a1, a2, a3, v, a4, a5⟩ := h6 j hj
        obtain ⟨c1, c2⟩ := hkeep.cell hlt hno j
        exact ⟨by rw [hnH id kk j h4]; exact a1, hnT id kk j h4, by rw [c2]; exact a3, v, by rw [c1]; exact a4, xat_nm (ow := fun _ => none) hbare (fun _ _ e => by cases e) (fun X sz c d l ee => hw.many _ _ _ _ _ _ (by rw [e2, ee])) hj (a5.mono hW'.ext (.refl _) (.refl _))⟩
  · -- each is there
    intro id kk e
    rcases hβ2 id kk e with ⟨rfl, hc, h1, -⟩ | ⟨hc, h1⟩
    · refine ⟨(hW'.bβ _ _ h1).1, ?_⟩
      rcases hrest with ⟨e2, -⟩ | ⟨-, -, ⟨-, p, h2, h3⟩, -, -⟩
      · omega
      · exact ⟨_, h3⟩
    · obtain ⟨h2, cs, h3⟩ := hw.bβ _ _ h1
      refine ⟨Nat.lt_of_lt_of_le h2 hW'.keep.size, ?_⟩
      by_cases hid : id ∈ σ.map (·.1)
      · obtain ⟨⟨b, cs0⟩, h4, rfl⟩ := List.mem_map.1 hid
        obtain ⟨q, hq⟩ := List.getElem?_of_mem h4
        obtain ⟨p, -, h5⟩ := hpost q b cs0 hq
        exact ⟨_, h5⟩
      · refine ⟨nmW.nmsW some (fun _ => none) cs, ?_⟩
        rcases hrest with ⟨-, h⟩ | ⟨h0, -, -, -, h⟩
        · rw [h id hid, bareB_get, h3]; rfl
        · rw [h id hid (fun c => hc ⟨c, h0⟩), bareB_get, h3]; rfl
  · intro i j kk e1 e2
    rcases hβ2 i kk e1 with ⟨rfl, hc, h1, h1'⟩ | ⟨hc, h1⟩ <;> rcases hβ2 j kk e2 with ⟨rfl, hc2, h2, h2'⟩ | ⟨hc2, h2⟩
    · rfl
    · have := (hw.bβ _ _ h2).1; omega
    · have := (hw.bβ _ _ h1).1; omega
    · exact hw.inj _ _ _ h1 h2
  · intro b q i e
    obtain ⟨-, a2, a3⟩ := hW'.tail b q i e
    refine ⟨?_, a2, a3⟩
    rcases hroom b q i e with ⟨q', i', c⟩ | c
    · exact (hw.tail _ _ _ c).1
    · exact .inr (Nat.le_trans hw.keep.size c)
  · intro b q i e j c
    rcases hβ2 j b c with ⟨-, -, h1, -⟩ | ⟨-, h1⟩
    · exact hW'.sep _ _ _ e _ h1
    · rw [hnT j b q h1] at e; cases e
  · intro i kk e
    refine ⟨(hw.hand i kk e).1, fun k' c => ?_⟩
    rcases hβ2 i k' c with ⟨rfl, hc, -, -⟩ | ⟨-, h1⟩
    · have := (hw.hand i kk e).1; have := (hdσ hc).1; omega
    · exact (hw.hand i kk e).2 _ h1
  · intro id X sz c dd l e
    by_cases hid : id ∈ σ.map (·.1)
    · obtain ⟨⟨b, cs0⟩, h1, rfl⟩ := List.mem_map.1 hid
      obtain ⟨q, hq⟩ := List.getElem?_of_mem h1
      obtain ⟨p, h2, h3⟩ := hpost q b cs0 hq
      simp only at e
      rw [h3] at e
      exact hW'.many _ _ _ _ _ _ (by rw [hbx q p h2, many_nm (Option.some.inj e)])
    · by_cases hc : id = d ∧ (ct.post x d).length = σ.length + 1
      · obtain ⟨rfl, hc⟩ := hc
        rcases hrest with ⟨e2, -⟩ | ⟨-, -, ⟨-, p, h2, h3⟩, -, -⟩
        · omega
        · rw [h3] at e
          exact hW'.many _ _ _ _ _ _ (by rw [hbx _ p h2, many_nm (Option.some.inj e)])
      · have e1 : (bareB s.bx).get id none = some [.many X sz c dd l] := by
          rcases hrest with ⟨-, h⟩ | ⟨h0, -, -, -, h⟩
          · rw [h id hid] at e; exact e
          · rw [h id hid (fun c => hc ⟨c, h0⟩)] at e; exact e
        obtain ⟨ds, e2, e3⟩ := hget id _ e1
        exact hw.many _ _ _ _ _ _ (by rw [e2, many_nm e3.symm])
  · intro id kk e
    rcases hβ2 id kk e with ⟨-, -, -, h1⟩ | ⟨-, h1⟩
    · exact ⟨.inr (Nat.le_trans hw.keep.size h1), fun _ => Nat.le_trans hw.keep.size h1⟩
    · exact hw.mine _ _ h1
  · intro i h1 h2
    rw [hβ2o i (fun c => by have := (hdσ c.2).1; omega)]
    exact hw.out i h1 h2
  · intro b q hm
    rcases hold b q (by have := hw.keep.size; omega) with ⟨q', i', c⟩ | c
    · rcases (hw.tail _ _ _ c).1 with h | h
      · exact .inl h
      · omega
    · rw [c]; exact hw.fresh b q hm
  · have old : (∃ i, β i = some kk ∨ (i < 10000 ∧ M i = some kk ∧ kk < w0.heap.size ∧ ∀ j, 10000 ≤ j → M j ≠ some kk)) → Edge w' kk := fun h1 => by
      by_cases hc : ∃ i, βc i = some kk
      · obtain ⟨i, hi⟩ := hc
        exact hW'.edge kk ⟨i, .inl (hbeta i kk hi)⟩
      · have he := hw.edge kk h1
        have hno : ¬ ∃ i, mB βc rb i = some kk := by
          rintro ⟨i, e⟩
          rcases mB_some e with ⟨-, e⟩ | ⟨-, e⟩
          · exact hc ⟨i, e⟩
          · obtain ⟨q', i', c'⟩ := hrb _ _ e
            obtain ⟨i2, h2⟩ := h1
            rcases h2 with h2 | ⟨-, h2, h3, h4⟩
            · exact hboxr _ _ h2 q' i' c'
            · rcases (hw.tail _ _ _ c').1 with ⟨j, h5, h6⟩ | h5
              · exact h4 j h5 h6
              · omega
        exact ⟨Nat.lt_of_lt_of_le he.1 hkeep.size, fun c t lo hi q => he.2 c t lo hi (by rw [← hkeep.block kk he.1 hno]; exact q)⟩
    obtain ⟨id, e | e⟩ := e
    · rcases hβ2 id kk e with ⟨-, -, h1, -⟩ | ⟨-, h1⟩
      · exact hW'.edge _ ⟨_, .inl h1⟩
      · exact old ⟨_, .inl h1⟩
    · exact old ⟨_, .inr e⟩
  · have e2 : s.bx.get 9999 none = some (sideB X) := by
      have e3 : (bareB s.bx).get 9999 none = some (sideB X) := by
        rcases hrest with ⟨-, h⟩ | ⟨-, hd10, -, -, h⟩
        · rw [h 9999 h9] at e; exact e
        · rw [h 9999 h9 (by omega)] at e; exact e
      obtain ⟨ds, h1, h2⟩ := hget _ _ e3
      rw [h1, show ds = sideB X from many_nm h2.symm]
    have hs2 := (hw.side X e2).2
    refine (hw.side X e2).of (fun k hk hb => hkeep.block k hk ?_) (fun k hk hb => ⟨fun i c => ?_, fun o => ⟨?_, ?_⟩⟩)
    · rintro ⟨i, c⟩
      rcases mB_some c with ⟨-, c⟩ | ⟨-, c⟩
      · obtain ⟨q, b, cs, -, -, h3⟩ := hβc i k c
        exact (hs2 k hb).1 b h3
      · obtain ⟨q', i', c'⟩ := hrb _ _ c
        rw [((hs2 k hb).2.1 q').2] at c'; cases c'
    · rcases hβ2 i k c with ⟨-, -, -, h1⟩ | ⟨-, h1⟩
      · omega
      · exact (hs2 k hb).1 i h1
    · rcases hold k o hk with ⟨q', i', c'⟩ | c'
      · rw [((hs2 k hb).2.1 q').2] at c'; cases c'
      · rw [c']; exact ((hs2 k hb).2.1 o).1
    · cases ht : T' k o with
      | none => rfl
      | some i' =>
        rcases hroom _ _ _ ht with ⟨q', i2, c'⟩ | c'
        · rw [((hs2 k hb).2.1 q').2] at c'; cases c'
        · omega

theorem len_sound (hE : EnvOk P E) (hf : FR H β T s.fr a) (hw : W M w0 H0 H β T s.bx w) (hn : OnTo M w0 H0 a o.dst k next) (c : Call) (ho : o.op = .call c) (hc : c.callee = .builtin .len)
    (x : Operand) (hx : c.args.toList = [x]) (hk : lenTK E c.argTypes.toList (ev s x) fun v => k v s) : o.wp P a w next Q := by
  obtain ⟨callee, ⟨args⟩, ⟨l⟩⟩ := c
  simp only at hc hx hk
  subst hc hx
  cases l with
  | nil => exact hk.elim
  | cons t r =>
    cases r with
    | cons _ _ => exact hk.elim
    | nil =>
      obtain ⟨ti, hti, hk⟩ := tiK_elim hk
      obtain ⟨d, hd, -, hsl, hstr, -⟩ := (hE.ty _ _ hti).und
      have hxg := ev_G hf x
      generalize hex : ev s x = p at hk hxg
      generalize hax : a.eval x = vx at hxg
      have run : ∀ n : Int, (Builtin.len_ #[t] o.type #[vx]).run P w = .ok (.int .i64 n) w → (execOp a.eval o).run P w = .ok (.value (.int .i64 n)) w := by
        intro n h
        unfold execOp
        simp only [ho, resolve, Sem.run_bind, Sem.run_pure, Result.andThen_ok, invoke, builtin]
        rw [show (Array.map a.eval ⟨[x]⟩) = #[vx] from by simp [hax], h]
        rfl
      have slc : ∀ (ad : Option Addr) (n c : Nat), vx = .slice ad n c → d = .slice ti.elem → k (.val (.int .i64 n)) s → o.wp P a w next Q := by
        intro ad n c h1 h2 hk
        subst h1 h2
        exact done_val hf hw hk (.val _) hn (run _ (by simp [Builtin.len_, run_und hd, goInt]))
      cases hs : ti.slice with
      | true =>
        rw [hs] at hk
        simp only at hk
        unfold lenK at hk
        have h := hsl hs
        cases p with
        | row X z cs dd l => cases hxg <;> exact slc _ _ _ rfl h hk
        | own X z cs dd l id => cases hxg <;> exact slc _ _ _ rfl h hk
        | arr b z o n cap => cases hxg <;> exact slc _ _ _ rfl h hk
        | e0 => cases hxg; exact slc _ _ _ rfl h hk
        | val v =>
          obtain rfl := gval hxg
          cases vx with
          | slice ad n c =>
            cases ad with
            | some _ => exact hk.elim
            | none =>
              cases n with
              | zero => exact slc _ _ _ rfl h hk
              | succ n => exact hk.elim
          | _ => exact hk.elim
        | _ => exact hk.elim
      | false =>
        rw [hs] at hk
        simp only at hk
        cases ht : ti.str with
        | false => rw [ht] at hk; exact hk.elim
        | true =>
          rw [ht] at hk
          obtain rfl := hstr ht
          cases p with
          | val v =>
            obtain rfl := gval hxg
            cases vx with
            | string n => exact done_val hf hw hk (.val _) hn (run _ (by simp [Builtin.len_, run_und hd, goInt]))
            | _ => exact hk.elim
          | _ => exact hk.elim

theorem max_sound (hf : FR H β T s.fr a) (hw : W M w0 H0 H β T s.bx w) (hn : OnTo M w0 H0 a o.dst k next) (c : Call) (ho : o.op = .call c) (hc : c.callee = .builtin .max)
    (x y : Operand) (hx : c.args.toList = [x, y]) (kk : IntKind) (n m : Int) (hex : ev s x = .val (.int kk n)) (hey : ev s y = .val (.int kk m)) (hk : k (.val (.int kk (if n < m then m else n))) s) : o.wp P a w next Q := by
  obtain ⟨callee, ⟨args⟩, l⟩ := c
  simp only at hc hx
  subst hc hx
  have h1 := ev_G hf x
  have h2 := ev_G hf y
  rw [hex] at h1
  rw [hey] at h2
  have e1 := gval h1
  have e2 := gval h2
  refine done_val hf hw hk (.val _) hn ?_
  unfold execOp
  simp only [ho, resolve, Sem.run_bind, Sem.run_pure, Result.andThen_ok, invoke, builtin]
  rw [show (Array.map a.eval ⟨[x, y]⟩) = #[.int kk n, .int kk m] from by simp [e1, e2]]
  simp [Builtin.max_, Builtin.max2]

theorem min_sound (hf : FR H β T s.fr a) (hw : W M w0 H0 H β T s.bx w) (hn : OnTo M w0 H0 a o.dst k next) (c : Call) (ho : o.op = .call c) (hc : c.callee = .builtin .min)
    (x y : Operand) (hx : c.args.toList = [x, y]) (kk : IntKind) (n m : Int) (hex : ev s x = .val (.int kk n)) (hey : ev s y = .val (.int kk m)) (hk : k (.val (.int kk (if m < n then m else n))) s) : o.wp P a w next Q := by
  obtain ⟨callee, ⟨args⟩, l⟩ := c
  simp only at hc hx
  subst hc hx
  have h1 := ev_G hf x
  have h2 := ev_G hf y
  rw [hex] at h1
  rw [hey] at h2
  have e1 := gval h1
  have e2 := gval h2
  refine done_val hf hw hk (.val _) hn ?_
  unfold execOp
  simp only [ho, resolve, Sem.run_bind, Sem.run_pure, Result.andThen_ok, invoke, builtin]
  rw [show (Array.map a.eval ⟨[x, y]⟩) = #[.int kk n, .int kk m] from by simp [e1, e2]]
  simp [Builtin.min_, Builtin.min2]

/-! ### Literals, parts of rows, functions as values -/
theorem fold_set (off : Nat) : ∀ (l : List Value) (b : Nat) (cells : Array Value),
    ((l.zipIdx b).foldl (fun cs (x : Value × Nat) => cs.setIfInBounds (off + x.2) x.1) cells).size = cells.size ∧
    ∀ q, q < cells.size → ((l.zipIdx b).foldl (fun cs (x : Value × Nat) => cs.setIfInBounds (off + x.2) x.1) cells).getD q undef =
      if off + b ≤ q ∧ q < off + b + l.length then l.getD (q - (off + b)) undef else cells.getD q undef
  | [], b, cells => ⟨rfl, fun q hq => by rw [if_neg (by simp <;> omega)]; simp⟩
  | v :: l, b, cells => by
    obtain ⟨h1, h2⟩ := fold_set off l (b + 1) (cells.setIfInBounds (off + b) v)
    simp only [List.zipIdx_cons, List.foldl_cons]
    refine ⟨by rw [h1]; simp, fun q hq => ?_⟩
    rw [h2 q (by simpa using hq)]
    by_cases e : q = off + b
    · subst e
      rw [if_neg (by omega), if_pos ⟨Nat.le_refl _, by simp⟩]
      simp [hq]
    · by_cases hr : off + (b + 1) ≤ q ∧ q < off + (b + 1) + l.length
      · rw [if_pos hr, if_pos ⟨by omega, by simp; omega⟩, show q - (off + b) = (q - (off + (b + 1))) + 1 by omega]
        rfl
      · rw [if_neg hr, if_neg (by simp; omega)]
        simp [Array.getD_eq_getD_getElem?, Array.getElem?_setIfInBounds_ne (Ne.symm e)]
theorem fill_sound {ρs : Operand → SV} {ρv : Operand → Value} (hρ : ∀ x, G H β T (ρs x) (ρv x)) {place : Nat → Option (Nat × Nat)} {placeK : Nat → (Nat → Nat → Prop) → Prop}
    (hp : ∀ i (k : Nat → Nat → Prop), placeK i k → ∃ o n, place i = some (o, n) ∧ k o n) : ∀ (parts : List (Nat × Operand)) (cs : List SV) (cells : Array Value) (k : List SV → Prop),
    fillK ρs placeK parts cs k → cells.size = cs.length → (∀ j, j < cs.length → G H β T (at' cs j .junk) (cells.getD j undef)) →
    ∃ cs' cells', Instr.fill place cells (parts.map fun (i, x) => (i, ρv x)) = some cells' ∧ k cs' ∧ cells'.size = cs'.length ∧ cs'.length = cs.length ∧ ∀ j, j < cs'.length → G H β T (at' cs' j .junk) (cells'.getD j undef)
  | [], cs, cells, k, h, hs, hg => ⟨cs, cells, rfl, h, hs, rfl, hg⟩
  | (i, x) :: r, cs, cells, k, h, hs, hg => by
    obtain ⟨o, n, hpl, h⟩ := hp _ _ h
    obtain ⟨vs, h, hvs⟩ := cellsK_elim (H := H) (β := β) (T := T) h
    obtain ⟨hsz, hvg⟩ := hvs _ (hρ x)
    cases hb : Nat.beq vs.length n with
    | false => rw [hb] at h; exact h.elim
    | true =>
      rw [hb] at h
      simp only at h
      cases hl : Nat.ble (o + n) cs.length with
      | false => rw [hl] at h; exact h.elim
      | true =>
        rw [hl] at h
        simp only [forceL_eq] at h
        have hb' := Nat.eq_of_beq_eq_true hb
        have hl' := Nat.le_of_ble_eq_true hl
        obtain ⟨f1, f2⟩ := fold_set o (ρv x).cells.toList 0 cells
        have hlen : (ρv x).cells.toList.length = vs.length := by simpa using hsz
        obtain ⟨cs', cells', e1, e2, e3, e4, e5⟩ := fill_sound hρ hp r (over o vs cs) (((ρv x).cells.toList.zipIdx 0).foldl (fun cs (x : Value × Nat) => cs.setIfInBounds (o + x.2) x.1) cells) k h
          (by rw [f1, over_length]; exact hs) (fun j hj => by
            rw [over_length] at hj
            rw [f2 j (by omega), at'_over _ _ _ _ _ (by omega)]
            by_cases hr : o ≤ j ∧ j < o + vs.length
            · rw [if_pos hr, if_pos (by omega), getD_toList]
              simpa using hvg (j - o) (by omega)
            · rw [if_neg hr, if_neg (by omega)]
              exact hg j hj)
        refine ⟨cs', cells', ?_, e2, e3, by rw [e4, over_length], e5⟩
        rw [List.map_cons]
        unfold Instr.fill
        simp only [hpl]
        rw [if_neg (by simp; omega)]
        rw [← e1]
        congr 1
        rw [← Array.foldl_toList]
        simp

theorem mapM_some {α γ : Type} (g : α → Option γ) : ∀ (l : List α), (∀ (i : Nat) (x : α), l[i]? = some x → ∃ y, g x = some y) → ∃ r, l.mapM g = some r ∧ ∀ (i : Nat) (x : α) (y : γ), l[i]? = some x → g x = some y → r[i]? = some y
  | [], _ => ⟨[], rfl, fun i x y h => by simp at h⟩
  | a :: l, h => by
    obtain ⟨y, hy⟩ := h 0 a rfl
    obtain ⟨r, h1, h2⟩ := mapM_some g l fun i x e => h (i + 1) x (by simpa using e)
    refine ⟨y :: r, by simp [List.mapM_cons, hy, h1], fun i x z e1 e2 => ?_⟩
    cases i with
    | zero =>
      simp at e1
      subst e1
      rw [hy] at e2
      simpa using e2
    | succ i => simpa using h2 i x z (by simpa using e1) e2
theorem build_sound (hE : EnvOk P E) (hf : FR H β T s.fr a) (hw : W M w0 H0 H β T s.bx w) (hn : OnTo M w0 H0 a o.dst k next) (t : TypeId) (parts : Array (Nat × Operand)) (ho : o.op = .build t parts)
    (hk : stepK E (dOf o.dst) (.build t parts) s k) : o.wp P a w next Q := by
  simp only [stepK, stepB, buildK] at hk
  obtain ⟨ti, hti, hk⟩ := tiK_elim hk
  have hT := hE.ty _ _ hti
  cases hfl : ti.flds with
  | nil => rw [hfl] at hk; exact hk.elim
  | cons f0 fr0 =>
    rw [hfl] at hk
    simp only at hk
    cases hz : Nat.ble 1 ti.zero.length with
    | false => rw [hz] at hk; exact hk.elim
    | true =>
      rw [hz] at hk
      simp only at hk
      rw [← hfl] at hk
      have hzl := Nat.le_of_ble_eq_true hz
      obtain ⟨fs, hu, hfs⟩ := hT.all (by rw [hfl]; simp)
      obtain ⟨d, hd, -, -, -, -, hflds⟩ := hT.und
      obtain rfl : d = .struct fs := Option.some.inj (hd.symm.trans hu)
      obtain ⟨i, hi, -, -, hzero⟩ := hT.inf
      obtain ⟨z, hz1, hz2⟩ := hzero (by intro c; rw [c] at hzl; simp at hzl)
      have hmap := mapM_some (fun f : Go.Field => (P.info? f.type).map fun i => (f.offset, i.size)) fs.toList (by
        intro j f e
        have hj : j < fs.size := by
          have := (List.getElem?_eq_some_iff.1 e).1
          simpa using this
        obtain ⟨q, u, e2⟩ : ∃ q u, ti.flds[j]? = some (q, u) := ⟨_, _, List.getElem?_eq_getElem (by omega)⟩
        obtain ⟨fs', fd, e3, e4, e5, e6, i', e7, -⟩ := hflds j q u e2
        cases e3
        rw [← Array.getElem?_toList] at e4
        obtain rfl := Option.some.inj (e.symm.trans e4)
        exact ⟨_, by rw [e6, e7]; rfl⟩)
      obtain ⟨places, hp1, hp2⟩ := hmap
      obtain ⟨cs', cells', e1, e2, e3, -, e5⟩ := fill_sound (H := H) (β := β) (T := T) (fun x => ev_G hf x) (place := (places.toArray[·]?))
        (fun j kk h => by
          obtain ⟨q, u, h1, h2⟩ := fldK_elim h
          obtain ⟨ui, h3, h4⟩ := tiK_elim h2
          obtain ⟨iu, h5, h6, -⟩ := (hE.ty _ _ h3).inf
          obtain ⟨fs', fd, g3, g4, g5, g6, i', g7, -⟩ := hflds j q u h1
          cases g3
          rw [← Array.getElem?_toList] at g4
          refine ⟨q, ui.size, ?_, h4⟩
          rw [List.getElem?_toArray]
          refine hp2 j fd _ g4 ?_
          rw [g6, h5, g5, Option.map_some, h6]) _ _ z.cells _ hk (by rw [← Array.length_toList, hz2]; simp)
        (fun j hj => by
          have hjl : j < ti.zero.length := by simpa using hj
          have e : at' (ti.zero.map SV.val) j .junk = .val (ti.zero[j]) := by rw [at'_get _ _ _ hj, List.getElem_map]
          have e2 : z.cells.getD j undef = ti.zero[j] := by
            rw [← getD_toList, getD_get _ _ (by rw [hz2]; exact hjl)]
            simp [hz2]
          rw [e, e2]; exact .val _)
      refine done_val hf hw e2 (.agg _ cells' e3 e5) hn ?_
      unfold execOp
      simp only [ho, Sem.run_bind]
      rw [run_build w t _ cells' ?_]
      · rfl
      · unfold Program.built
        rw [hi, hu]
        simp only [hz1, hp1]
        rw [← e1]
        simp

theorem makeFunc_sound (hf : FR H β T s.fr a) (hw : W M w0 H0 H β T s.bx w) (hn : OnTo M w0 H0 a o.dst k next) (f : Fn) (fs cs : Array Operand) (ho : o.op = .makeFunc f fs cs)
    (hk : stepK E (dOf o.dst) (.makeFunc f fs cs) s k) : o.wp P a w next Q := by
  simp only [stepK, stepB, makeFuncK] at hk
  cases f with
  | func g =>
    obtain ⟨l0⟩ := fs
    simp only at hk
    cases l0 with
    | cons _ _ => exact hk.elim
    | nil =>
      simp only [forceL_eq] at hk
      refine done_val hf hw hk (.fn g _ (cs.map a.eval) (by simp) fun j hj => ?_) hn (by unfold execOp; simp [ho, Instr.makeFunc])
      have hjl : j < cs.size := by simpa using hj
      rw [at'_get _ _ _ hj, List.getElem_map, Array.getElem_toList]
      have e : (cs.map a.eval).getD j undef = a.eval cs[j] := by simp [hjl]
      rw [e]; exact ev_G hf _
  | _ => exact hk.elim

theorem timesL_length {α : Type _} (l : List α) : ∀ n, (timesL l n).length = n * l.length
  | 0 => by simp [timesL]
  | n + 1 => by simp [timesL, timesL_length l n, Nat.add_mul]; omega
theorem at'_append {α : Type _} (d : α) : ∀ (a b : List α) (j : Nat), at' (a ++ b) j d = if j < a.length then at' a j d else at' b (j - a.length) d
  | [], b, j => by simp
  | x :: a, b, 0 => by simp [at']
  | x :: a, b, j + 1 => by
    rw [List.cons_append, at', at'_append d a b j, List.length_cons]
    by_cases h : j < a.length
    · rw [if_pos h, if_pos (by omega)]; rfl
    · rw [if_neg h, if_neg (by omega), show j + 1 - (a.length + 1) = j - a.length by omega]
theorem at'_timesL {α : Type _} (d : α) (l : List α) : ∀ (n j : Nat), j < n * l.length → at' (timesL l n) j d = at' l (j % l.length) d
  | 0, j, h => by simp at h
  | n + 1, j, h => by
    rw [timesL, at'_append]
    by_cases hj : j < l.length
    · rw [if_pos hj, Nat.mod_eq_of_lt hj]
    · rw [if_neg hj, at'_timesL d l n _ (by rw [Nat.add_mul] at h; omega), Nat.mod_eq_sub_mod (a := j) (by omega)]
theorem flat_length {X : Type} {cs : X → List SV} {sz : Nat} (h : ∀ x, (cs x).length = sz) : ∀ l : List X, (flat cs l).length = l.length * sz
  | [] => by simp [flat]
  | x :: l => by simp [flat, h, flat_length h l, Nat.add_mul]; omega
theorem at'_flat {X : Type} {cs : X → List SV} {sz : Nat} (h : ∀ x, (cs x).length = sz) (e : X) : ∀ (l : List X) (i j : Nat), i < l.length → j < sz → at' (flat cs l) (i * sz + j) .junk = at' (cs (l.getD i e)) j .junk
  | [], i, j, hi, _ => by simp at hi
  | x :: l, 0, j, _, hj => by
    rw [flat, at'_append, if_pos (by rw [h]; omega)]
    simp
  | x :: l, i + 1, j, hi, hj => by
    rw [flat, at'_append, if_neg (by rw [h, Nat.add_mul]; omega), h, show (i + 1) * sz + j - sz = i * sz + j by rw [Nat.add_mul]; omega, at'_flat h e l i j (by simpa using hi) hj]
    simp

def hset (H : HM) (n : Nat) (vs : Array Value) : HM := fun b q => if b = n then vs[q]? else H b q
/-- a block is made whose cells stay as they are -/
theorem W.newRow (h : W M w0 H0 H β T s.bx w) (vs : Array Value) (t : TypeId) : HLe H (hset H w.heap.size vs) ∧ W M w0 H0 (hset H w.heap.size vs) β T s.bx (w.alloc (.cells vs t)) := by
  have hno : ∀ q, H w.heap.size q = none := fun q => (no_new h q).1
  have hle : HLe H (hset H w.heap.size vs) := fun b q v e => by
    unfold hset
    by_cases hb : b = w.heap.size
    · rw [hb, hno] at e; cases e
    · rw [if_neg hb]; exact e
  have h' := h.heap_eq (w' := w.alloc (.cells vs t)) (h.keep.alloc _) (fun b o v e => cell_alloc e) (fun b hb => Below.heap_alloc _ _ _ hb) (by simp)
  refine ⟨hle, ?_, ?_, h'.bβ, h'.inj, h'.tail, h'.sep, h'.hand, h'.many, h'.mine, h'.out, h'.keep, h.ext.trans hle, ?_, h'.edge, fun X e => (h'.side X e).of (fun _ _ _ => rfl) (fun k hk hq => ⟨((h'.side X e).2 k hq).1, fun o => ⟨by unfold hset; rw [if_neg (fun c => by have := X.inw w (h.side X e).1 k hq; omega)]; exact (((h'.side X e).2 k hq).2.1 o).1, (((h'.side X e).2 k hq).2.1 o).2⟩⟩)⟩
  · intro b q v e
    unfold hset at e
    by_cases hb : b = w.heap.size
    · rw [if_pos hb] at e
      subst hb
      exact ⟨by rw [World.cell?_alloc_new]; simpa using e, (no_new h q).2⟩
    · rw [if_neg hb] at e
      exact h'.lies b q v e
  · intro id cs e hl
    obtain ⟨k, hk, hm, hj⟩ := h'.box id cs e hl
    refine ⟨k, hk, hm, fun j hlt => ?_⟩
    obtain ⟨a1, a2, a3, v, a4, a5⟩ := hj j hlt
    refine ⟨?_, a2, a3, v, a4, a5.mono hle (.refl _) (.refl _)⟩
    unfold hset
    rw [if_neg (by have := (h.bβ id k hk).1; omega)]
    exact a1
  · intro b q hm
    unfold hset
    rw [if_neg (fun c => by have := h.keep.size; omega)]
    exact h.fresh b q hm

/-- a row in a new block, whatever else the world has got -/
theorem W.sealNew {w' : World} (h : W M w0 H0 H β T s.bx w) (hk : Keeps M w0 w') (hc : ∀ b o v, w.cell? ⟨b, o, none⟩ = some v → w'.cell? ⟨b, o, none⟩ = some v)
    (hf : ∀ b, b < w.heap.size → w'.heap[b]? = w.heap[b]?) (hs : w.heap.size ≤ w'.heap.size) (vs : Array Value) (hv : ∀ (q : Nat) v, vs[q]? = some v → w'.cell? ⟨w.heap.size, q, none⟩ = some v) :
    HLe H (hset H w.heap.size vs) ∧ W M w0 H0 (hset H w.heap.size vs) β T s.bx w' := by
  have hno : ∀ q, H w.heap.size q = none := fun q => (no_new h q).1
  have hle : HLe H (hset H w.heap.size vs) := fun b q v e => by
    unfold hset
    by_cases hb : b = w.heap.size
    · rw [hb, hno] at e; cases e
    · rw [if_neg hb]; exact e
  have h' := h.heap_eq hk hc hf hs
  refine ⟨hle, ?_, ?_, h'.bβ, h'.inj, h'.tail, h'.sep, h'.hand, h'.many, h'.mine, h'.out, h'.keep, h.ext.trans hle, ?_, h'.edge, fun X e => (h'.side X e).of (fun _ _ _ => rfl) (fun k hk hq => ⟨((h'.side X e).2 k hq).1, fun o => ⟨by unfold hset; rw [if_neg (fun c => by have := X.inw w (h.side X e).1 k hq; omega)]; exact (((h'.side X e).2 k hq).2.1 o).1, (((h'.side X e).2 k hq).2.1 o).2⟩⟩)⟩
  · intro b q v e
    unfold hset at e
    by_cases hb : b = w.heap.size
    · rw [if_pos hb] at e
      subst hb
      exact ⟨hv q v e, (no_new h q).2⟩
    · rw [if_neg hb] at e
      exact h'.lies b q v e
  · intro id cs e hl
    obtain ⟨k, hk, hm, hj⟩ := h'.box id cs e hl
    refine ⟨k, hk, hm, fun j hlt => ?_⟩
    obtain ⟨a1, a2, a3, v, a4, a5⟩ := hj j hlt
    refine ⟨?_, a2, a3, v, a4, a5.mono hle (.refl _) (.refl _)⟩
    unfold hset
    rw [if_neg (by have := (h.bβ id k hk).1; omega)]
    exact a1
  · intro b q hm
    unfold hset
    rw [if_neg (fun c => by have := h.keep.size; omega)]
    exact h.fresh b q hm
theorem isU8_eq {o : Option IntKind} (h : isU8 o = true) : o = some .u8 := by
  cases o with
  | none => cases h
  | some k => cases k <;> first | rfl | (exact absurd h (by simp [isU8]))
/-- what a row of bytes is in memory -/
theorem bytes_run (hw : W M w0 H0 H β T s.bx w) {P : Program} {l : List UInt8} {v : Value} (hg : G H β T (byteRow l) v) (src dst e : TypeId) (hs : P.underlying src = some (.slice e)) (he : P.underlying e = some (.int .u8)) (hd : P.underlying dst = some .string) :
    (convert src dst v).run P w = .ok (.string ⟨l.toArray⟩) w := by
  unfold byteRow at hg
  cases hg with
  | rowE _ _ _ _ a c =>
    cases a with
    | none => rw [run_convert_bytes_nil w src e hs he 0 c dst hd]; rfl
    | some a =>
      rw [run_convert_bytes_string w src dst e _ 0 c hs he hd, run_bytesToString w a 0 c [] (by
        have := run_loadCells_list (P := P) w a [] (fun j v hj => by simp at hj)
        simpa using this)]
      rfl
  | row _ _ _ _ _ b off c vs hc hz hH hG =>
    have hx : ∀ i, i < l.length → w.cell? ⟨b, off + i, none⟩ = some (.int .u8 (((l.map fun x => (x.toNat : Int)).getD i 0))) := fun i hi => by
      have h1 := (hw.lies _ _ _ (hH i 0 hi (by omega))).1
      have h2 := hG i 0 hi (by omega)
      have h3 : vs i 0 = .int .u8 ((l.getD i 0).toNat : Int) := by
        have : at' (byteC (l.getD i 0)) 0 .junk = .val (.int .u8 ((l.getD i 0).toNat : Int)) := rfl
        rw [this] at h2
        exact gval h2
      rw [Nat.mul_one, Nat.add_zero] at h1
      rw [h1, h3]
      simp [List.getD, hi]
    rw [run_convert_bytes_arg w src e hs he b off l.length c (l.map fun x => (x.toNat : Int)) (by simp) hx dst hd]
    congr 2
    simp [strOfNums, Function.comp_def]
theorem newVecK_elim {d : Nat} {bx : Tr (Option (List SV))} {sz n : Nat} {ok : (T : Type) → (T → List SV) → List T → Prop} {k : SV → Tr (Option (List SV)) → Prop} (h : newVecK d bx sz n ok k) :
    Nat.blt d 1000 = true ∧ bx.get d (some []) = none ∧ ∃ (T : Type) (cs : T → List SV) (e : T) (l : List T), l.length = n ∧ (∀ x, (cs x).length = sz ∧ imm.imms (cs x) = true ∧ allOk (cs x) = true) ∧ ok T cs l ∧ k (.arr d sz 0 n (some n)) (bx.put d (some [.many T sz cs e l])) := by
  unfold newVecK at h
  cases hd : Nat.blt d 1000 with
  | false => rw [hd] at h; exact h.elim
  | true =>
    rw [hd] at h
    simp only at h
    cases hb : bx.get d (some []) with
    | some _ => rw [hb] at h; exact h.elim
    | none =>
      rw [hb] at h
      obtain ⟨T, cs, e, l, ⟨h1, h2⟩, h3, h4⟩ := h
      rw [Tr.putK_eq] at h4
      exact ⟨rfl, rfl, T, cs, e, l, h1, h2, h3, h4⟩
theorem xat_flat {X : Type} {sz : Nat} {cs : X → List SV} (hcs : ∀ x, (cs x).length = sz) (e : X) (l : List X) (hsz : 0 < sz) {j : Nat} (hj : j < l.length * sz) : xat [.many X sz cs e l] j = at' (flat cs l) j .junk := by
  have h1 : j / sz < l.length := by rw [Nat.div_lt_iff_lt_mul hsz]; exact hj
  have h2 : j % sz < sz := Nat.mod_lt _ hsz
  have h3 : j = j / sz * sz + j % sz := by rw [Nat.mul_comm]; exact (Nat.div_add_mod j sz).symm
  show at' (cs (l.getD (j / sz) e)) (j % sz) .junk = _
  conv => rhs; rw [h3]
  rw [at'_flat hcs e l _ _ h1 h2]
theorem buildVec_sound (hE : EnvOk P E) (hf : FR H β T s.fr a) (hw : W M w0 H0 H β T s.bx w) (hn : OnTo M w0 H0 a o.dst k next) (t : TypeId) (len : Nat) (parts : Array (Nat × Operand)) (ho : o.op = .buildSlice t len parts)
    (hk : buildVecK E (dOf o.dst) (ev s) t len parts.toList s.bx fun v bx => k v ⟨s.fr, bx⟩) : o.wp P a w next Q := by
  unfold buildVecK at hk
  obtain ⟨ti, hti, hk⟩ := tiK_elim hk
  cases hsl : ti.slice with
  | false => rw [hsl] at hk; exact hk.elim
  | true =>
    rw [hsl] at hk
    obtain ⟨ui, hui, hk⟩ := tiK_elim hk
    cases h1 : Nat.beq ui.zero.length ui.size with
    | false => rw [h1] at hk; exact hk.elim
    | true =>
      rw [h1] at hk
      simp only at hk
      cases h2 : Nat.ble 1 (len * ui.size) with
      | false => rw [h2] at hk; exact hk.elim
      | true =>
        rw [h2] at hk
        simp only at hk
        cases h3 : Nat.ble (len * ui.size) 16777216 with
        | false => rw [h3] at hk; exact hk.elim
        | true =>
          rw [h3] at hk
          simp only at hk
          have g1 := Nat.eq_of_beq_eq_true h1
          have g2 := Nat.le_of_ble_eq_true h2
          have g3 := Nat.le_of_ble_eq_true h3
          have hsz : 0 < ui.size := Nat.pos_of_ne_zero fun c => by rw [c] at g2; simp at g2
          obtain ⟨d, hd, -, hds, -⟩ := (hE.ty _ _ hti).und
          obtain rfl := hds hsl
          obtain ⟨i, hi, hisz, -, hzero⟩ := (hE.ty _ _ hui).inf
          obtain ⟨z, hz1, hz2⟩ := hzero (by intro c; rw [c] at g1; simp at g1; omega)
          have hzs : z.cells.size = ui.size := by rw [← Array.length_toList, hz2, g1]
          obtain ⟨cs', cells', e1, hk, e3, e4, e5⟩ := fill_sound (H := H) (β := β) (T := T) (fun x => ev_G hf x) (place := fun i => some (i * ui.size, ui.size))
            (fun j kk h => ⟨_, _, rfl, h⟩) _ _ ((Array.range (len * ui.size)).map (z.cells[· % z.cells.size]!)) _ hk (by rw [timesL_length]; simp [g1])
            (fun j hj => by
              rw [timesL_length, List.length_map] at hj
              rw [at'_timesL _ _ _ _ (by rw [List.length_map]; exact hj), List.length_map]
              have hm : j % ui.zero.length < ui.zero.length := Nat.mod_lt _ (by omega)
              have ee : at' (ui.zero.map SV.val) (j % ui.zero.length) .junk = .val (ui.zero[j % ui.zero.length]) := by rw [at'_get _ _ _ (by simpa using hm), List.getElem_map]
              have e2 : ((Array.range (len * ui.size)).map (z.cells[· % z.cells.size]!)).getD j undef = ui.zero[j % ui.zero.length] := by
                have hjl : j < len * ui.size := by rw [← g1]; exact hj
                have hm2 : j % z.cells.size < z.cells.size := by rw [hzs, ← g1]; exact hm
                have e6 : z.cells[j % z.cells.size]! = z.cells.toList.getD (j % z.cells.size) undef := by
                  rw [getD_toList]; simp [hm2]
                simp only [Array.getD, Array.size_map, Array.size_range, hjl, dite_true]
                simp only [Array.getInternal_eq_getElem, Array.getElem_map, Array.getElem_range]
                rw [e6, hz2, getD_get _ _ (by rw [hzs, ← g1]; exact hm)]
                simp only [hzs, g1]
              rw [ee, e2]; exact .val _)
          obtain ⟨hdm, hd0, X, cs, e, l, hl, hcs2, hsub, hk⟩ := newVecK_elim hk
          have hcs : ∀ x, (cs x).length = ui.size := fun x => (hcs2 x).1
          obtain ⟨hlen, hsubj⟩ := SubL_at hsub
          have hfl := flat_length hcs l
          subst hl
          obtain ⟨hle, hw'⟩ := hw.newBox hdm hd0 (cs := [.many X ui.size cs e l]) (vs := cells') (t := ti.elem) (by show l.length * ui.size ≤ _; omega) (fun j hj => by
            replace hj : j < l.length * ui.size := hj
            rw [xat_flat hcs e l hsz hj]
            exact (e5 j (by omega)).sub (hsubj _ (by omega))) (fun X' sz' c' d' l' ee => by cases ee; exact ⟨hsz, hcs2⟩)
          have hrun : (execOp a.eval o).run P w = .ok (.value (.slice (some ⟨w.heap.size, 0, none⟩) l.length l.length)) (w.alloc (.cells cells' ti.elem)) := by
            unfold execOp
            simp only [ho, Sem.run_bind]
            rw [run_buildSlice w t ti.elem l.length _ cells' i z hd hi hz1 (by rw [hisz]; omega) (by rw [hisz]; omega) (by rw [hisz, ← e1]; simp)]
            rfl
          unfold Oper.wp
          rw [hrun]
          refine hn _ _ _ _ _ T _ hk (hf.mono (.refl _) hle (.refl _)) hw' ?_
          have := G.arr (H := H) (β := bset β (dOf o.dst) w.heap.size) (T := T) (dOf o.dst) ui.size 0 l.length (some l.length) w.heap.size l.length (by simp [bset]) (Nat.le_refl _) (fun c' e => by cases e; rfl)
          rw [Nat.zero_mul] at this
          exact this
/-- a row of so many places is made -/
theorem makeVec_sound (hE : EnvOk P E) (hf : FR H β T s.fr a) (hw : W M w0 H0 H β T s.bx w) (hn : OnTo M w0 H0 a o.dst k next) (t : TypeId) (x y : Operand) (ho : o.op = .makeSlice t x y)
    (hk : stepK E (dOf o.dst) (.makeSlice t x y) s k) : o.wp P a w next Q := by
  simp only [stepK, stepB, makeVecK] at hk
  obtain ⟨ti, hti, hk⟩ := tiK_elim hk
  cases hsl : ti.slice with
  | false => rw [hsl] at hk; exact hk.elim
  | true =>
    rw [hsl] at hk
    obtain ⟨ui, hui, hk⟩ := tiK_elim hk
    cases h1 : Nat.beq ui.zero.length ui.size with
    | false => rw [h1] at hk; exact hk.elim
    | true =>
      rw [h1] at hk
      simp only at hk
      cases h2 : Nat.ble 1 ui.size with
      | false => rw [h2] at hk; exact hk.elim
      | true =>
      rw [h2] at hk
      simp only at hk
      have g1 := Nat.eq_of_beq_eq_true h1
      have hsz : 0 < ui.size := Nat.le_of_ble_eq_true h2
      have hx := ev_G hf x
      have hy := ev_G hf y
      generalize hex : ev s x = px at hk hx
      generalize hax : a.eval x = vx at hx
      cases px with
      | val v =>
        obtain rfl := gval hx
        cases vx with
        | int k1 n =>
          simp only at hk
          generalize hey : ev s y = py at hk hy
          generalize hay : a.eval y = vy at hy
          cases py with
          | val v =>
            obtain rfl := gval hy
            cases vy with
            | int k2 c =>
              simp only at hk
              obtain ⟨⟨n0, rfl, nb, n1⟩, hk⟩ := hk
              obtain ⟨d, hd, -, hds, -⟩ := (hE.ty _ _ hti).und
              obtain rfl := hds hsl
              obtain ⟨i, hi, hisz, hib, hzero⟩ := (hE.ty _ _ hui).inf
              obtain ⟨z, hz1, hz2⟩ := hzero (by intro c; rw [c] at g1; simp at g1; omega)
              have hzs : z.cells.size = ui.size := by rw [← Array.length_toList, hz2, g1]
              obtain ⟨hdm, hd0, X, cs, e, l, hl, hcs2, ⟨ze, hsub, hrep⟩, hk⟩ := newVecK_elim hk
              have hcs : ∀ x, (cs x).length = ui.size := fun x => (hcs2 x).1
              obtain ⟨hlen, hsubj⟩ := SubL_at hsub
              have hrun : (execOp a.eval o).run P w = .ok (.value (.slice (some ⟨w.heap.size, 0, none⟩) n.toNat n.toNat)) (w.alloc (.cells (madeCells z.cells (n.toNat * i.size)) ti.elem)) := by
                unfold execOp
                simp only [ho, Sem.run_bind, hax, hay]
                rw [run_make w t ti.elem i z hd hi hz1 k1 k2 n n n0 (Int.le_refl _) (by rw [hib]; rw [Int.mul_comm] at nb; omega) (by omega)]
                rfl
              obtain ⟨hle, hw'⟩ := hw.newBox hdm hd0 (cs := [.many X ui.size cs e l]) (vs := madeCells z.cells (n.toNat * i.size)) (t := ti.elem) (by
                show l.length * ui.size ≤ _
                rw [hl, hisz]; simp [madeCells]) (fun j hj => by
                replace hj : j < l.length * ui.size := hj
                have hji : j / ui.size < l.length := by rw [Nat.div_lt_iff_lt_mul hsz]; exact hj
                have hjm : j % ui.size < ui.size := Nat.mod_lt _ hsz
                show G H β T (at' (cs (l.getD (j / ui.size) e)) (j % ui.size) .junk) _
                have e1 : l.getD (j / ui.size) e = ze := by
                  rw [hrep, List.getD_eq_getElem?_getD, List.getElem?_replicate, if_pos (by rw [← hl]; exact hji)]; rfl
                rw [e1]
                refine G.sub (hsubj _ (by rw [hcs]; exact hjm)) ?_
                rw [at'_get _ _ _ (by simpa [g1] using hjm), List.getElem_map]
                have e2 : (madeCells z.cells (n.toNat * i.size)).getD j undef = ui.zero[j % ui.size]'(by rw [g1]; exact hjm) := by
                  have hjl : j < n.toNat * i.size := by rw [hisz, ← hl]; exact hj
                  have e6 : z.cells[j % z.cells.size]! = z.cells.toList.getD (j % z.cells.size) undef := by
                    rw [getD_toList]; simp [show j % z.cells.size < z.cells.size from Nat.mod_lt _ (by omega)]
                  unfold madeCells
                  simp only [Array.getD, Array.size_map, Array.size_range, hjl, dite_true]
                  simp only [Array.getInternal_eq_getElem, Array.getElem_map, Array.getElem_range]
                  rw [e6, hz2, getD_get _ _ (by rw [hzs, g1]; exact hjm)]
                  simp only [hzs]
                rw [e2]; exact .val _) (fun X' sz' c' d' l' ee => by cases ee; exact ⟨hsz, hcs2⟩)
              unfold Oper.wp
              rw [hrun]
              refine hn _ _ _ _ _ T _ hk (hf.mono (.refl _) hle (.refl _)) hw' ?_
              have := G.arr (H := H) (β := bset β (dOf o.dst) w.heap.size) (T := T) (dOf o.dst) ui.size 0 n.toNat (some n.toNat) w.heap.size n.toNat (by simp [bset]) (Nat.le_refl _) (fun c' e => by cases e; rfl)
              rw [Nat.zero_mul] at this
              exact this
            | _ => exact hk.elim
          | _ => exact hk.elim
        | _ => exact hk.elim
      | _ => exact hk.elim
theorem buildSlice_sound (hE : EnvOk P E) (hf : FR H β T s.fr a) (hw : W M w0 H0 H β T s.bx w) (hn : OnTo M w0 H0 a o.dst k next) (t : TypeId) (len : Nat) (parts : Array (Nat × Operand)) (ho : o.op = .buildSlice t len parts)
    (hk : stepK E (dOf o.dst) (.buildSlice t len parts) s k) : o.wp P a w next Q := by
  simp only [stepK, stepB] at hk
  cases hv : vecD E.bs (dOf o.dst) with
  | true => rw [hv] at hk; exact buildVec_sound hE hf hw hn t len parts ho hk
  | false =>
  rw [hv] at hk
  simp only [buildSliceK] at hk
  obtain ⟨ti, hti, hk⟩ := tiK_elim hk
  cases hsl : ti.slice with
  | false => rw [hsl] at hk; exact hk.elim
  | true =>
    rw [hsl] at hk
    simp only at hk
    cases hl0 : Nat.beq len 0 with
    | true =>
      rw [hl0] at hk
      obtain rfl := Nat.eq_of_beq_eq_true hl0
      obtain ⟨ui, hui, hk⟩ := tiK_elim hk
      cases hp : parts.toList with
      | cons _ _ => rw [hp] at hk; exact hk.elim
      | nil =>
      rw [hp] at hk
      obtain ⟨d, hd, -, hds, -⟩ := (hE.ty _ _ hti).und
      obtain rfl := hds hsl
      obtain ⟨i, hi, hisz, -, -⟩ := (hE.ty _ _ hui).inf
      obtain ⟨hle, hw'⟩ := hw.newRow (s := s) #[] ti.elem
      have hrun : (execOp a.eval o).run P w = .ok (.value (.slice (some ⟨w.heap.size, 0, none⟩) 0 0)) (w.alloc (.cells #[] ti.elem)) := by
        unfold execOp
        obtain rfl : parts = #[] := by simpa using hp
        simp [ho, Instr.buildSlice, run_und hd, run_size hi, Instr.fill, newRow, Array.range_zero']
      unfold Oper.wp
      rw [hrun]
      exact hn _ _ _ _ β T _ hk (hf.mono hle (.refl _) (.refl _)) hw' (.e0 _)
    | false =>
    rw [hl0] at hk
    obtain ⟨ui, hui, hk⟩ := tiK_elim hk
    cases h1 : Nat.beq ui.zero.length ui.size with
    | false => rw [h1] at hk; exact hk.elim
    | true =>
      rw [h1] at hk
      simp only at hk
      cases h2 : Nat.ble 1 (len * ui.size) with
      | false => rw [h2] at hk; exact hk.elim
      | true =>
        rw [h2] at hk
        simp only at hk
        cases h3 : Nat.ble (len * ui.size) 16777216 with
        | false => rw [h3] at hk; exact hk.elim
        | true =>
          rw [h3] at hk
          simp only at hk
          have g1 := Nat.eq_of_beq_eq_true h1
          have g2 := Nat.le_of_ble_eq_true h2
          have g3 := Nat.le_of_ble_eq_true h3
          have hsz : 0 < ui.size := Nat.pos_of_ne_zero fun c => by rw [c] at g2; simp at g2
          obtain ⟨d, hd, -, hds, -⟩ := (hE.ty _ _ hti).und
          obtain rfl := hds hsl
          obtain ⟨i, hi, hisz, -, hzero⟩ := (hE.ty _ _ hui).inf
          obtain ⟨z, hz1, hz2⟩ := hzero (by intro c; rw [c] at g1; simp at g1; omega)
          have hzs : z.cells.size = ui.size := by rw [← Array.length_toList, hz2, g1]
          obtain ⟨cs', cells', e1, ⟨X, cs, e, l, ⟨hl, hcs⟩, hsub, himm, hk⟩, e3, e4, e5⟩ := fill_sound (H := H) (β := β) (T := T) (fun x => ev_G hf x) (place := fun i => some (i * ui.size, ui.size))
            (fun j kk h => ⟨_, _, rfl, h⟩) _ _ ((Array.range (len * ui.size)).map (z.cells[· % z.cells.size]!)) _ hk (by rw [timesL_length]; simp [g1])
            (fun j hj => by
              rw [timesL_length, List.length_map] at hj
              rw [at'_timesL _ _ _ _ (by rw [List.length_map]; exact hj), List.length_map]
              have hm : j % ui.zero.length < ui.zero.length := Nat.mod_lt _ (by omega)
              have ee : at' (ui.zero.map SV.val) (j % ui.zero.length) .junk = .val (ui.zero[j % ui.zero.length]) := by rw [at'_get _ _ _ (by simpa using hm), List.getElem_map]
              have e2 : ((Array.range (len * ui.size)).map (z.cells[· % z.cells.size]!)).getD j undef = ui.zero[j % ui.zero.length] := by
                have hjl : j < len * ui.size := by rw [← g1]; exact hj
                have hm2 : j % z.cells.size < z.cells.size := by rw [hzs, ← g1]; exact hm
                have e6 : z.cells[j % z.cells.size]! = z.cells.toList.getD (j % z.cells.size) undef := by
                  rw [getD_toList]; simp [hm2]
                simp only [Array.getD, Array.size_map, Array.size_range, hjl, dite_true]
                simp only [Array.getInternal_eq_getElem, Array.getElem_map, Array.getElem_range]
                rw [e6, hz2, getD_get _ _ (by rw [hzs, ← g1]; exact hm)]
                simp only [hzs, g1]
              rw [ee, e2]; exact .val _)
          obtain ⟨hlen, hsubj⟩ := SubL_at hsub
          have hfl := flat_length hcs l
          obtain ⟨u, hsu, hk⟩ : ∃ u, Sub (.own X ui.size cs e l (dOf o.dst)) u ∧ k u s := by
            unfold ownOr at hk
            cases hmm : memN E.bs (Nat.add 800000 (dOf o.dst)) with
            | true => rw [hmm] at hk; exact ⟨_, .own .., hk⟩
            | false => rw [hmm] at hk; exact ⟨_, .refl _, hk⟩
          obtain ⟨hle, hw'⟩ := hw.newRow (s := s) cells' ti.elem
          have hrun : (execOp a.eval o).run P w = .ok (.value (.slice (some ⟨w.heap.size, 0, none⟩) len len)) (w.alloc (.cells cells' ti.elem)) := by
            unfold execOp
            simp only [ho, Sem.run_bind]
            rw [run_buildSlice w t ti.elem len _ cells' i z hd hi hz1 (by rw [hisz]; omega) (by rw [hisz]; omega) (by rw [hisz, ← e1]; simp)]
            rfl
          unfold Oper.wp
          rw [hrun]
          refine hn _ _ _ _ β T _ hk (hf.mono hle (.refl _) (.refl _)) hw' ?_
          subst hl
          refine G.sub hsu (.own X ui.size cs e l _ w.heap.size 0 l.length (fun i j => cells'.getD (i * ui.size + j) undef) (Nat.le_refl _) (fun i _ => hcs _) ?_ ?_ (fun q h1 h2 => by omega))
          · intro i j hi hj
            have hb : i * ui.size + j < l.length * ui.size := by
              have := Nat.mul_le_mul_right ui.size (show i + 1 ≤ l.length by omega)
              rw [Nat.add_mul] at this; omega
            have hc : i * ui.size + j < cells'.size := by omega
            simp [hset, hc]
          · intro i j hi hj
            have hb : i * ui.size + j < l.length * ui.size := by
              have := Nat.mul_le_mul_right ui.size (show i + 1 ≤ l.length by omega)
              rw [Nat.add_mul] at this; omega
            rw [← at'_flat hcs e l i j hi hj]
            have h7 := (e5 (i * ui.size + j) (by omega)).sub (hsubj _ (by omega))
            exact (h7.imm (imms_at himm _ (by omega)) noB noT).mono hle (.refl _) (.refl _)

theorem run_bounds (isSlice : Bool) (len cap : Nat) (lo hi : Option Value) (l h : Nat) (hlo : (lo = none ∧ l = 0) ∨ ∃ k i, lo = some (.int k i) ∧ 0 ≤ i ∧ i.toNat = l)
    (hhi : (hi = none ∧ h = len) ∨ ∃ k i, hi = some (.int k i) ∧ 0 ≤ i ∧ i.toNat = h) (h1 : l ≤ h) (h2 : h ≤ cap) : (Instr.sliceBounds isSlice len cap lo hi none).run P w = .ok (l, h, cap) w := by
  have hl : ∀ k (i : Int) c, 0 ≤ i → i.toNat = l → (Instr.sliceBound (.int k i) h c).run P w = .ok l w := fun k i c a b => by rw [run_sliceBound w k i h c a (by omega), b]
  rcases hhi with ⟨rfl, rfl⟩ | ⟨kh, ih, rfl, hh0, hh⟩
  · rcases hlo with ⟨rfl, rfl⟩ | ⟨k, i, rfl, h3, h4⟩
    · simp [Instr.sliceBounds]
    · simp [Instr.sliceBounds, hl k i _ h3 h4]
  · have hb : ∀ c, (Instr.sliceBound (.int kh ih) cap c).run P w = .ok h w := fun c => by rw [run_sliceBound w kh ih cap c hh0 (by omega), hh]
    rcases hlo with ⟨rfl, rfl⟩ | ⟨k, i, rfl, h3, h4⟩
    · simp [Instr.sliceBounds, hb]
    · simp [Instr.sliceBounds, hb, hl k i _ h3 h4]
theorem lowK_elim {x : Option Operand} {ρs : Operand → SV} {ρv : Operand → Value} (hρ : ∀ x, G H β T (ρs x) (ρv x)) {k : Int → Prop} (h : lowK (x.map ρs) k) :
    ∃ i, k i ∧ (0 ≤ i → (x.map ρv = none ∧ i.toNat = 0) ∨ ∃ kk j, x.map ρv = some (.int kk j) ∧ 0 ≤ j ∧ j.toNat = i.toNat) := by
  cases x with
  | none => exact ⟨0, h, fun _ => .inl ⟨rfl, rfl⟩⟩
  | some x =>
    simp only [Option.map_some, lowK] at h
    have hx := hρ x
    generalize ρs x = p at h hx
    cases p with
    | val v =>
      cases v with
      | int kk n => exact ⟨n, h, fun hn => .inr ⟨kk, n, by rw [Option.map_some, gval hx], hn, rfl⟩⟩
      | _ => exact h.elim
    | _ => exact h.elim
theorem cutRow_elim {X : Type} {l : List X} {x : Option Operand} {ρs : Operand → SV} {ρv : Operand → Value} (hρ : ∀ x, G H β T (ρs x) (ρv x)) {lo : Int} {k : List X → Prop} (h : cutRow l (x.map ρs) lo k) :
    ∃ hh : Nat, 0 ≤ lo ∧ lo ≤ hh ∧ hh ≤ l.length ∧ k ((l.take hh).drop lo.toNat) ∧ ((x.map ρv = none ∧ hh = l.length) ∨ ∃ kk j, x.map ρv = some (.int kk j) ∧ 0 ≤ j ∧ j.toNat = hh) := by
  cases x with
  | none => exact ⟨l.length, h.1.1, h.1.2, Nat.le_refl _, by rw [List.take_length]; exact h.2, .inl ⟨rfl, rfl⟩⟩
  | some x =>
    simp only [Option.map_some, cutRow] at h
    have hx := hρ x
    generalize ρs x = p at h hx
    cases p with
    | val v =>
      cases v with
      | int kk n =>
        obtain ⟨⟨h1, h2, h3⟩, h4⟩ := h
        exact ⟨n.toNat, h1, by omega, by omega, h4, .inr ⟨kk, n, by rw [Option.map_some, gval hx], by omega, rfl⟩⟩
      | _ => exact h.elim
    | _ => exact h.elim
theorem cutStr_elim {b : ByteArray} {x : Option Operand} {ρs : Operand → SV} {ρv : Operand → Value} (hρ : ∀ x, G H β T (ρs x) (ρv x)) {lo : Int} {k : ByteArray → Prop} (h : cutStr b (x.map ρs) lo k) :
    ∃ hh : Nat, 0 ≤ lo ∧ lo ≤ hh ∧ hh ≤ b.size ∧ k (b.extract lo.toNat hh) ∧ ((x.map ρv = none ∧ hh = b.size) ∨ ∃ kk j, x.map ρv = some (.int kk j) ∧ 0 ≤ j ∧ j.toNat = hh) := by
  cases x with
  | none => exact ⟨b.size, h.1.1, h.1.2, Nat.le_refl _, h.2, .inl ⟨rfl, rfl⟩⟩
  | some x =>
    simp only [Option.map_some, cutStr] at h
    have hx := hρ x
    generalize ρs x = p at h hx
    cases p with
    | val v =>
      cases v with
      | int kk n =>
        obtain ⟨⟨h1, h2, h3⟩, h4⟩ := h
        exact ⟨n.toNat, h1, by omega, by omega, h4, .inr ⟨kk, n, by rw [Option.map_some, gval hx], by omega, rfl⟩⟩
      | _ => exact h.elim
    | _ => exact h.elim
theorem G_part {X : Type} {z : Nat} {cs : X → List SV} {d : X} {l : List X} {ad : Option Addr} {n c : Nat} (h : G H β T (.row X z cs d l) (.slice ad n c)) {lo hh : Nat} (h1 : lo ≤ hh) (h2 : hh ≤ l.length) :
    G H β T (.row X z cs d ((l.take hh).drop lo)) (.slice (if c = lo then ad else ad.map (·.add (lo * z))) (hh - lo) (c - lo)) ∧ hh ≤ c ∧ l.length = n := by
  cases h with
  | rowE =>
    obtain rfl : hh = 0 := by simpa using h2
    simp only [List.take_nil, List.drop_nil, Nat.zero_sub]
    exact ⟨.rowE .., Nat.zero_le _, rfl⟩
  | row _ _ _ _ _ b off _ vs hc hz hH hG =>
    refine ⟨?_, by omega, rfl⟩
    by_cases he : hh = lo
    · subst he
      rw [List.drop_eq_nil_of_le (by simp; omega), Nat.sub_self]
      exact .rowE ..
    · rw [if_neg (by omega)]
      have hlen : ((l.take hh).drop lo).length = hh - lo := by simp; omega
      have hget : ∀ i, i < hh - lo → ((l.take hh).drop lo).getD i d = l.getD (lo + i) d := fun i hi => by
        simp [List.getD, List.getElem?_drop, List.getElem?_take, show lo + i < hh by omega]
      rw [show hh - lo = ((l.take hh).drop lo).length from hlen.symm, Option.map_some, add_none]
      refine .row X z cs d _ b (off + lo * z) _ (fun i j => vs (lo + i) j) (by omega) ?_ ?_ ?_
      · intro i hi; rw [hget i (by omega)]; exact hz _ (by omega)
      · intro i j hi hj
        have := hH (lo + i) j (by omega) hj
        rw [Nat.add_mul] at this
        rw [show off + lo * z + i * z + j = off + (lo * z + i * z) + j by omega]
        exact this
      · intro i j hi hj; rw [hget i (by omega)]; exact hG _ _ (by omega) hj
theorem G_partA {b z o n : Nat} {cap : Option Nat} {ad : Option Addr} {m c : Nat} (h : G H β T (.arr b z o n cap) (.slice ad m c)) {lo hh : Nat} (h1 : lo ≤ hh) (h2 : hh ≤ n) :
    G H β T (.arr b z (o + lo) (hh - lo) none) (.slice (if c = lo then ad else ad.map (·.add (lo * z))) (hh - lo) (c - lo)) ∧ hh ≤ c ∧ n = m := by
  have hE : ∀ (a : Option Addr) (c : Nat), hh = lo → G H β T (.arr b z (o + lo) (hh - lo) none) (.slice a (hh - lo) c) := fun a c e => by
    rw [show hh - lo = 0 by omega]; exact .arrE ..
  cases h with
  | arrE => exact ⟨hE _ _ (by omega), by omega, rfl⟩
  | arr _ _ _ _ _ k _ hβ hc he =>
    refine ⟨?_, by omega, rfl⟩
    by_cases e : hh = lo
    · exact hE _ _ e
    · rw [if_neg (by omega), Option.map_some, add_none, ← Nat.add_mul]
      exact .arr b z (o + lo) (hh - lo) none k (c - lo) hβ (by omega) (fun _ e => by cases e)
theorem cutA_elim {n : Nat} {x : Option Operand} {ρs : Operand → SV} {ρv : Operand → Value} (hρ : ∀ x, G H β T (ρs x) (ρv x)) {lo : Int} {k : Nat → Nat → Prop} (h : cutA n (x.map ρs) lo k) :
    ∃ hh : Nat, 0 ≤ lo ∧ lo ≤ hh ∧ hh ≤ n ∧ k lo.toNat (hh - lo.toNat) ∧ ((x.map ρv = none ∧ hh = n) ∨ ∃ kk j, x.map ρv = some (.int kk j) ∧ 0 ≤ j ∧ j.toNat = hh) := by
  cases x with
  | none => exact ⟨n, h.1.1, h.1.2, Nat.le_refl _, h.2, .inl ⟨rfl, rfl⟩⟩
  | some x =>
    simp only [Option.map_some, cutA] at h
    have hx := hρ x
    generalize ρs x = p at h hx
    cases p with
    | val v =>
      cases v with
      | int kk n =>
        obtain ⟨⟨h1, h2, h3⟩, h4⟩ := h
        exact ⟨n.toNat, h1, by omega, by omega, h4, .inr ⟨kk, n, by rw [Option.map_some, gval hx], by omega, rfl⟩⟩
      | _ => exact h.elim
    | _ => exact h.elim
theorem slice_sound (hE : EnvOk P E) (hf : FR H β T s.fr a) (hw : W M w0 H0 H β T s.bx w) (hn : OnTo M w0 H0 a o.dst k next) (t : TypeId) (x : Operand) (lo hi mx : Option Operand) (ho : o.op = .slice t x lo hi mx)
    (hk : stepK E (dOf o.dst) (.slice t x lo hi mx) s k) : o.wp P a w next Q := by
  simp only [stepK, stepB, sliceK] at hk
  cases mx with
  | some m =>
    obtain ⟨ti, hti, hk⟩ := tiK_elim hk
    obtain ⟨d, hd, -, hds, -⟩ := (hE.ty _ _ hti).und
    cases hsl : ti.slice with
    | false => rw [hsl] at hk; exact hk.elim
    | true =>
    rw [hsl] at hk
    obtain rfl := hds hsl
    obtain ⟨ui, hui, hk⟩ := tiK_elim hk
    obtain ⟨i, hi1, hi2, -⟩ := (hE.ty _ _ hui).inf
    have zero : ∀ y : Operand, isZ (some (ev s y)) = true → ∃ kk, a.eval y = .int kk 0 := by
      intro y h
      have hy := ev_G hf y
      generalize ev s y = p at h hy
      unfold isZ at h
      split at h
      · rename_i e; cases e
      · rename_i v e
        cases e
        split at h
        · rename_i v
          split at h
          · rename_i kk n
            split at h
            · rename_i n
              exact ⟨kk, by rw [gval hy, Nat.eq_of_beq_eq_true h]; rfl⟩
            · cases h
          · cases h
        · cases h
    cases hz1 : isZ (some (ev s m)) with
    | false => rw [hz1] at hk; exact hk.elim
    | true =>
    rw [hz1] at hk
    simp only at hk
    cases hi with
    | none => exact hk.elim
    | some h =>
    simp only at hk
    cases hz2 : isZ (some (ev s h)) with
    | false => rw [hz2] at hk; exact hk.elim
    | true =>
    rw [hz2] at hk
    simp only at hk
    cases hz3 : isZ (lo.map (ev s)) with
    | false => rw [hz3] at hk; exact hk.elim
    | true =>
    rw [hz3] at hk
    simp only at hk
    have hx := ev_G hf x
    generalize hex : ev s x = p at hk hx
    generalize hax : a.eval x = vx at hx
    obtain ⟨ad, n, c, rfl, hk⟩ : ∃ ad n c, vx = .slice ad n c ∧ k .e0 s := by
      cases p with
      | row => cases hx <;> exact ⟨_, _, _, rfl, hk⟩
      | own => cases hx <;> exact ⟨_, _, _, rfl, hk⟩
      | arr => cases hx <;> exact ⟨_, _, _, rfl, hk⟩
      | e0 => cases hx; exact ⟨_, _, _, rfl, hk⟩
      | val v =>
        obtain rfl := gval hx
        cases vx with
        | slice ad n c => exact ⟨_, _, _, rfl, hk⟩
        | _ => exact hk.elim
      | _ => exact hk.elim
    obtain ⟨km, em⟩ := zero m hz1
    obtain ⟨kh, eh⟩ := zero h hz2
    have hrun : (execOp a.eval o).run P w = .ok (.value (.slice ad 0 0)) w := by
      unfold execOp
      cases lo with
      | none => simp [ho, hax, Instr.sliceAt, Instr.slice, run_und hd, Instr.sliceBounds, em, eh, Instr.sliceBound, asIntOf, run_size hi1]
      | some l =>
        obtain ⟨kl, el⟩ := zero l hz3
        simp [ho, hax, Instr.sliceAt, Instr.slice, run_und hd, Instr.sliceBounds, em, eh, el, Instr.sliceBound, asIntOf, run_size hi1]
    exact done_val hf hw hk (.e0 _) hn hrun
  | none =>
    obtain ⟨ti, hti, hk⟩ := tiK_elim hk
    obtain ⟨d, hd, -, hds, hdt, -⟩ := (hE.ty _ _ hti).und
    have hx := ev_G hf x
    generalize hex : ev s x = p at hk hx
    generalize hax : a.eval x = vx at hx
    unfold cutK at hk
    cases hsl : ti.slice with
    | true =>
      rw [hsl] at hk
      obtain rfl := hds hsl
      obtain ⟨ui, hui, hk⟩ := tiK_elim hk
      obtain ⟨i, hi1, hi2, -⟩ := (hE.ty _ _ hui).inf
      have body : ∀ (X : Type) (z : Nat) (cs : X → List SV) (dd : X) (l : List X), G H β T (.row X z cs dd l) vx →
          (match Nat.beq z ui.size with | true => lowK (lo.map (ev s)) fun lo => cutRow l (hi.map (ev s)) lo fun l => k (.row X z cs dd l) s | false => False) → o.wp P a w next Q := by
        intro X z cs dd l hg hk
        cases hz : Nat.beq z ui.size with
        | false => rw [hz] at hk; exact hk.elim
        | true =>
          rw [hz] at hk
          obtain rfl := Nat.eq_of_beq_eq_true hz
          obtain ⟨il, hk, hil⟩ := lowK_elim (fun x => ev_G hf x) hk
          obtain ⟨hh, g1, g2, g3, hk, hih⟩ := cutRow_elim (fun x => ev_G hf x) hk
          obtain ⟨ad, n, c, rfl⟩ : ∃ ad n c, vx = .slice ad n c := by cases hg <;> exact ⟨_, _, _, rfl⟩
          obtain ⟨hp, hc, hl⟩ := G_part hg (lo := il.toNat) (hh := hh) (by omega) g3
          refine done_val hf hw hk hp hn ?_
          have hb := run_bounds (P := P) (w := w) true n c (lo.map a.eval) (hi.map a.eval) il.toNat hh (hil g1) (by rw [← hl]; exact hih) (by omega) hc
          unfold execOp
          simp only [ho, hax, Option.map_none, Instr.sliceAt, Instr.slice, Sem.run_bind, run_und hd, Result.andThen_ok, hb, run_size hi1, hi2, Sem.run_pure]
      cases p with
      | row X z cs dd l => exact body X z cs dd l hx hk
      | own X z cs dd l id => exact body X z cs dd l (hx.sub (.own ..)) hk
      | arr b z q m cap =>
        simp only at hk
        cases hz : Nat.beq z ui.size with
        | false => rw [hz] at hk; exact hk.elim
        | true =>
          rw [hz] at hk
          obtain rfl := Nat.eq_of_beq_eq_true hz
          obtain ⟨il, hk, hil⟩ := lowK_elim (fun x => ev_G hf x) hk
          obtain ⟨hh, g1, g2, g3, hk, hih⟩ := cutA_elim (fun x => ev_G hf x) hk
          obtain ⟨ad, n, c, rfl⟩ : ∃ ad n c, vx = .slice ad n c := by cases hx <;> exact ⟨_, _, _, rfl⟩
          obtain ⟨hp, hc, hl⟩ := G_partA hx (lo := il.toNat) (hh := hh) (by omega) g3
          refine done_val hf hw hk hp hn ?_
          have hb := run_bounds (P := P) (w := w) true n c (lo.map a.eval) (hi.map a.eval) il.toNat hh (hil g1) (by rw [← hl]; exact hih) (by omega) hc
          unfold execOp
          simp only [ho, hax, Option.map_none, Instr.sliceAt, Instr.slice, Sem.run_bind, run_und hd, Result.andThen_ok, hb, run_size hi1, hi2, Sem.run_pure]
      | _ => exact hk.elim
    | false =>
      rw [hsl] at hk
      simp only at hk
      cases hst : ti.str with
      | false => rw [hst] at hk; exact hk.elim
      | true =>
        rw [hst] at hk
        obtain rfl := hdt hst
        cases p with
        | val v =>
          obtain rfl := gval hx
          cases vx with
          | string b =>
            simp only at hk
            obtain ⟨il, hk, hil⟩ := lowK_elim (fun x => ev_G hf x) hk
            obtain ⟨hh, g1, g2, g3, hk, hih⟩ := cutStr_elim (fun x => ev_G hf x) hk
            have hb := run_bounds (P := P) (w := w) false b.size b.size (lo.map a.eval) (hi.map a.eval) il.toNat hh (hil g1) hih (by omega) g3
            refine done_val hf hw hk (.val _) hn ?_
            unfold execOp
            simp only [ho, hax, Option.map_none, Instr.sliceAt, Instr.slice, Sem.run_bind, run_und hd, Result.andThen_ok, Option.isSome_none, Bool.false_eq_true, if_false, hb, Sem.run_pure]
          | _ => exact hk.elim
        | _ => exact hk.elim

/-- a row is marked as a text's -/
def markO : Obj → Obj
  | .cells c e (lo, hi) => .cells c e (if lo == hi then (c.size, c.size + 1) else (min lo c.size, max hi (c.size + 1)))
  | o => o
def markW (w : World) (k : Nat) : World := { w with heap := w.heap.modify k markO }
theorem run_mark {P : Program} (w : World) (k o : Nat) : (markStringish ⟨k, o, none⟩).run P w = .ok () (markW w k) := by
  have hm : ∀ (g1 g2 : Obj → Obj), (∀ o, w.heap[k]? = some o → g1 o = g2 o) → w.heap.modify k g1 = w.heap.modify k g2 := by
    intro g1 g2 hg
    apply Array.ext_getElem?
    intro j
    simp only [Array.getElem?_modify]
    by_cases hj : k = j
    · subst hj
      simp only [if_true]
      cases ho : w.heap[k]? with
      | none => rfl
      | some o => simp [hg o ho]
    · simp [hj]
  have hid : w.heap.modify k id = w.heap := by
    apply Array.ext_getElem?
    intro j
    simp only [Array.getElem?_modify]
    by_cases hj : k = j
    · subst hj; simp
    · simp [hj]
  have hno : (∀ c e f, w.heap[k]? ≠ some (.cells c e f)) → markW w k = w := fun h => by
    unfold markW
    rw [hm markO id (fun o ho => by
      cases o with
      | cells c e f => exact absurd ho (h c e f)
      | _ => rfl), hid]
  cases ho : w.heap[k]? with
  | none =>
    have hs : w.shape? k = none := by simp only [World.shape?, ho]
    rw [hno (fun c e f h => by rw [ho] at h; cases h)]
    simp [markStringish, hs]
  | some x =>
    cases x with
    | cells c e f =>
      have hs : w.shape? k = some (e, c.size) := by simp only [World.shape?, ho]
      have hw : w.freeze ⟨k, c.size, none⟩ 1 = markW w k := by
        unfold World.freeze markW
        simp only [Nat.one_ne_zero, if_false]
        congr 1
        apply hm
        intro o ho2
        rw [ho] at ho2
        cases ho2
        obtain ⟨lo, hi⟩ := f
        rfl
      simp [markStringish, hs, hw]
    | _ =>
      have hs : w.shape? k = none := by simp only [World.shape?, ho]
      rw [hno (fun c e f h => by rw [ho] at h; cases h)]
      simp [markStringish, hs]
theorem markW_at (w : World) (k j : Nat) : (markW w k).heap[j]? = if k = j then (w.heap[j]?).map markO else w.heap[j]? := by
  simp only [markW, Array.getElem?_modify]
theorem markW_cell (w : World) (k b o : Nat) : (markW w k).cell? ⟨b, o, none⟩ = w.cell? ⟨b, o, none⟩ := by
  simp only [World.cell?, markW_at]
  by_cases h : k = b
  · rw [if_pos h]
    cases w.heap[b]? with
    | none => rfl
    | some x => cases x <;> rfl
  · rw [if_neg h]
theorem markW_size (w : World) (k : Nat) : (markW w k).heap.size = w.heap.size := by simp [markW]
theorem W.mark (h : W M w0 H0 H β T s.bx w) {id k : Nat} (hk : β id = some k) : W M w0 H0 H β T s.bx (markW w k) := by
  have hmine := (h.mine id k hk).1
  refine ⟨fun b o v e => ⟨by rw [markW_cell]; exact (h.lies b o v e).1, (h.lies b o v e).2⟩, ?_, fun i q e => ⟨by rw [markW_size]; exact (h.bβ i q e).1, (h.bβ i q e).2⟩, h.inj, ?_, h.sep, h.hand, h.many, h.mine, h.out, ⟨h.keep.os, h.keep.tape, h.keep.output, by rw [markW_size]; exact h.keep.size, ?_, ?_⟩, h.ext, h.fresh, ?_, fun X e => (h.side X e).world fun q _ hq => by rw [markW_at, if_neg (fun (c : k = q) => ((h.side X e).2 q hq).1 id (c ▸ hk))]⟩
  · intro i cs e hl
    obtain ⟨q, hq, hm, hj⟩ := h.box i cs e hl
    refine ⟨q, hq, hm, fun j hlt => ?_⟩
    obtain ⟨a1, a2, a3, v, a4, a5⟩ := hj j hlt
    refine ⟨a1, a2, ?_, v, by rw [markW_cell]; exact a4, a5⟩
    by_cases hkq : k = q
    · subst hkq
      have he := (h.edge k ⟨_, .inl hq⟩).2
      simp only [World.frozen?, markW_at, if_true]
      simp only [World.cell?] at a4
      cases ho : w.heap[k]? with
      | none => rfl
      | some x =>
        rw [ho] at a4
        cases x with
        | cells c t f =>
          obtain ⟨lo, hi⟩ := f
          have hlj : j < c.size := by
            simp only [Option.isSome_none, Bool.false_eq_true, if_false] at a4
            exact (Array.getElem?_eq_some_iff.1 a4).1
          have := he c t lo hi ho
          simp only [Option.map_some, markO]
          by_cases hlh : lo = hi
          · subst hlh
            simp; omega
          · have hb : (lo == hi) = false := by simpa using hlh
            simp only [hb]
            simp; omega
        | _ => rfl
    · simp only [World.frozen?, markW_at, if_neg hkq]
      exact a3
  · intro b o i e
    obtain ⟨a1, a2, a3⟩ := h.tail b o i e
    have hb : ¬ k = b := fun c => h.sep b o i e id (c ▸ hk)
    exact ⟨a1, by rw [markW_cell]; exact a2, by simp only [World.frozen?, markW_at, if_neg hb]; exact a3⟩
  · intro j hj hno
    rw [markW_at, if_neg]
    · exact h.keep.block j hj hno
    · rintro rfl
      rcases hmine with q | q
      · exact hno q
      · omega
  · intro j hj
    rw [← h.keep.shape j hj]
    simp only [World.shape?, markW_at]
    by_cases c : k = j
    · rw [if_pos c]
      cases w.heap[j]? with
      | none => rfl
      | some x => cases x <;> rfl
    · rw [if_neg c]
  · intro q e
    refine ⟨by rw [markW_size]; exact (h.edge q e).1, ?_⟩
    intro c t lo hi ho
    rw [markW_at] at ho
    by_cases hkq : k = q
    · rw [if_pos hkq] at ho
      cases hx : w.heap[q]? with
      | none => rw [hx] at ho; cases ho
      | some x =>
        rw [hx] at ho
        cases x with
        | cells c' t' f =>
          obtain ⟨lo', hi'⟩ := f
          simp only [Option.map_some, markO, Option.some.injEq, Obj.cells.injEq] at ho
          obtain ⟨rfl, rfl, ho⟩ := ho
          have := (h.edge q e).2 c' t' lo' hi' hx
          right
          by_cases hlh : lo' = hi'
          · subst hlh
            simp at ho; omega
          · have hb : (lo' == hi') = false := by simpa using hlh
            simp only [hb] at ho
            simp at ho; omega
        | _ => cases ho
    · rw [if_neg hkq] at ho
      exact (h.edge q e).2 c t lo hi ho
theorem convert_sound (hE : EnvOk P E) (hf : FR H β T s.fr a) (hw : W M w0 H0 H β T s.bx w) (hn : OnTo M w0 H0 a o.dst k next) (s1 t : TypeId) (x : Operand) (ho : o.op = .convert s1 t x)
    (hk : stepK E (dOf o.dst) (.convert s1 t x) s k) : o.wp P a w next Q := by
  have hx := ev_G hf x
  simp only [stepK, stepB] at hk
  generalize ev s x = p at hk hx
  obtain ⟨si, hsi, hk⟩ := tiK_elim hk
  obtain ⟨ti, hti, hk⟩ := tiK_elim hk
  obtain ⟨ds, hds, -, hss, hsst, -⟩ := (hE.ty _ _ hsi).und
  obtain ⟨dt, hdt, -, hts, htst, -⟩ := (hE.ty _ _ hti).und
  cases hi : ti.int with
  | some kk =>
    rw [hi] at hk
    have hd := (hE.ty _ _ hti).int kk hi
    cases p with
    | val v =>
      cases v with
      | int k0 n =>
        have hv := gval hx
        refine done_val hf hw hk (.val _) hn ?_
        unfold execOp
        simp only [ho, hv, Sem.run_bind, Go.convert, run_und hds, run_und hd, Result.andThen_ok]
        cases ds <;> simp [Conv.intToInt]
      | _ => exact hk.elim
    | _ => exact hk.elim
  | none =>
    rw [hi] at hk
    simp only at hk
    cases hst : ti.str with
    | true =>
      rw [hst] at hk
      simp only at hk
      obtain rfl := htst hst
      cases hsl : si.slice with
      | true =>
        rw [hsl] at hk
        simp only at hk
        obtain rfl := hss hsl
        obtain ⟨ui, hui, hk⟩ := tiK_elim hk
        cases hu8 : isU8 ui.int with
        | false => rw [hu8] at hk; exact hk.elim
        | true =>
          rw [hu8] at hk
          obtain ⟨l, hsub, hk⟩ := hk
          have hue := (hE.ty _ _ hui).int _ (isU8_eq hu8)
          refine done_val hf hw hk (.val _) hn ?_
          unfold execOp
          simp only [ho, Sem.run_bind]
          rw [bytes_run hw (hx.sub hsub) s1 t si.elem hds hue hdt]
          rfl
      | false =>
        rw [hsl] at hk
        simp only at hk
        cases hss' : si.str with
        | false => rw [hss'] at hk; exact hk.elim
        | true =>
          rw [hss'] at hk
          obtain rfl := hsst hss'
          cases p with
          | val v =>
            cases v with
            | string b =>
              have hv := gval hx
              refine done_val hf hw hk (.val _) hn ?_
              unfold execOp
              simp only [ho, hv, Sem.run_bind, Go.convert, run_und hds, run_und hdt, Result.andThen_ok]
              rfl
            | _ => exact hk.elim
          | _ => exact hk.elim
    | false =>
      rw [hst] at hk
      simp only at hk
      cases hsl : ti.slice with
      | false => rw [hsl] at hk; exact hk.elim
      | true =>
        rw [hsl] at hk
        simp only at hk
        obtain rfl := hts hsl
        obtain ⟨ui, hui, hk⟩ := tiK_elim hk
        cases hu8 : isU8 ui.int with
        | false => rw [hu8] at hk; exact hk.elim
        | true =>
          rw [hu8] at hk
          simp only at hk
          have hue := (hE.ty _ _ hui).int _ (isU8_eq hu8)
          cases p with
          | val v =>
            cases v with
            | string b =>
              have hv := gval hx
              have hrun := Lib.run_convert_string_bytes (P := P) w s1 t ti.elem b hds hdt hue
              have hcells : ∀ b' o v, w.cell? ⟨b', o, none⟩ = some v → (Lib.bytesWorld w ti.elem b).cell? ⟨b', o, none⟩ = some v := fun b' o v e => by
                rw [Lib.bytesWorld_old w ti.elem b ⟨b', o, none⟩ (cell_lt e)]; exact e
              obtain ⟨hle, hw'⟩ := hw.sealNew (w' := Lib.bytesWorld w ti.elem b) ⟨hw.keep.os, hw.keep.tape, hw.keep.output, (by rw [Lib.bytesWorld_size]; have := hw.keep.size; omega), fun k hk hm => by rw [Lib.bytesWorld_at_old w _ _ k (by have := hw.keep.size; omega)]; exact hw.keep.block k hk hm, fun k hk => by rw [← hw.keep.shape k hk]; exact shape_eq (Lib.bytesWorld_at_old w _ _ k (by have := hw.keep.size; omega))⟩ hcells (fun b' hb => Lib.bytesWorld_at_old w ti.elem b b' hb) (by rw [Lib.bytesWorld_size]; omega)
                (b.data.map fun x => Value.int .u8 (x.toNat : Int)) (fun q v e => by
                  have hq : q < b.size := by
                    have := (Array.getElem?_eq_some_iff.1 e).1
                    rw [Array.size_map] at this; exact this
                  rw [Lib.bytesWorld_cell w ti.elem b q hq]
                  rw [← e]
                  have hq' : q < b.data.size := hq
                  rw [Array.getElem?_map, Array.getElem?_eq_getElem hq']
                  simp [List.getD, Array.getElem?_eq_getElem hq'])
              unfold Oper.wp
              have hrun2 : (execOp a.eval o).run P w = .ok (.value (.slice (some ⟨w.heap.size, 0, none⟩) b.size (grownCap w b.size 0 ti.elem))) (Lib.bytesWorld w ti.elem b) := by
                unfold execOp
                simp only [ho, hv, Sem.run_bind, hrun]
                rfl
              rw [hrun2]
              refine hn _ _ _ _ β T _ hk (hf.mono hle (.refl _) (.refl _)) hw' ?_
              have hge := grownCap_ge w b.size 0 ti.elem
              have hbl : b.data.toList.length = b.size := by rw [Array.length_toList]; rfl
              rw [← hbl]
              refine .row UInt8 1 byteC 0 b.data.toList w.heap.size 0 _ (fun i j => .int .u8 ((b.data.toList.getD i 0).toNat : Int)) (by rw [hbl]; exact hge) (fun i _ => rfl) (fun i j hi hj => ?_) (fun i j hi hj => ?_)
              · obtain rfl : j = 0 := by omega
                have hi' : i < b.data.size := by simpa using hi
                simp only [hset, Nat.mul_one, Nat.add_zero, Nat.zero_add, if_true, Array.getElem?_map, Array.getElem?_eq_getElem hi', Option.map_some]
                simp [List.getD, Array.getElem?_eq_getElem hi']
              · obtain rfl : j = 0 := by omega
                exact .val _
            | _ => exact hk.elim
          | arr b z q n cap =>
            simp only at hk
            cases hst2 : Nat.beq s1 t with
            | false => rw [hst2] at hk; exact hk.elim
            | true =>
              rw [hst2] at hk
              simp only at hk
              cases hn1 : Nat.ble 1 n with
              | false => rw [hn1] at hk; exact hk.elim
              | true =>
                rw [hn1] at hk
                simp only at hk
                have hn1 := Nat.le_of_ble_eq_true hn1
                have heq := Nat.eq_of_beq_eq_true hst2
                generalize hav : a.eval x = val at hx
                cases hx with
                | arrE => omega
                | arr _ _ _ _ _ kk c hβ hc he =>
                  have hrun2 : (execOp a.eval o).run P w = .ok (.value (.slice (some ⟨kk, q * z, none⟩) n c)) (markW w kk) := by
                    unfold execOp
                    subst heq
                    simp only [ho, hav, Sem.run_bind, Go.convert, run_und hdt, run_und hue, Result.andThen_ok, beq_self_eq_true, run_mark w kk (q * z)]
                    rfl
                  unfold Oper.wp
                  rw [hrun2]
                  exact hn _ _ _ _ β T _ hk hf (hw.mark hβ) (.arr _ _ _ _ _ kk c hβ hc he)
          | _ => exact hk.elim
theorem index_sound (hE : EnvOk P E) (hf : FR H β T s.fr a) (hw : W M w0 H0 H β T s.bx w) (hn : OnTo M w0 H0 a o.dst k next) (t : TypeId) (x i : Operand) (ho : o.op = .index t x i)
    (hk : stepK E (dOf o.dst) (.index t x i) s k) : o.wp P a w next Q := by
  have hx := ev_G hf x
  have hi := ev_G hf i
  simp only [stepK, stepB] at hk
  generalize ev s x = p at hk hx
  generalize ev s i = q at hk hi
  obtain ⟨ti, hti, hk⟩ := tiK_elim hk
  obtain ⟨d, hd, -, -, hst, -⟩ := (hE.ty _ _ hti).und
  cases hs : ti.str with
  | false => rw [hs] at hk; exact hk.elim
  | true =>
    rw [hs] at hk
    obtain rfl := hst hs
    cases p with
    | val v =>
      cases v with
      | string z =>
        cases q with
        | val u =>
          cases u with
          | int k0 n =>
            have hv := gval hx
            have hu := gval hi
            obtain ⟨⟨h0, h1⟩, hk⟩ := hk
            refine done_val hf hw hk (.val _) hn ?_
            unfold execOp
            have hlt : n.toNat < z.size := by omega
            have e1 : z[n.toNat]? = some z[n.toNat] := by simp [hlt]
            have e2 : z.data.getD n.toNat 0 = z[n.toNat] := by
              have hlt' : n.toNat < z.data.size := hlt
              simp only [Array.getD, dif_pos hlt']; rfl
            simp only [ho, hv, hu, Sem.run_bind, Instr.index, asIntOf, Sem.run_pure, run_und hd, Result.andThen_ok, if_pos h0, e1]
            simp [byteAt, e2]
          | _ => exact hk.elim
        | _ => exact hk.elim
      | _ => exact hk.elim
    | _ => exact hk.elim
theorem isClear_eq {c : Callee} (h : isClear c = true) : c = .builtin .clear := by
  unfold isClear at h
  split at h
  · split at h
    · rfl
    · cases h
  · cases h
theorem clear_sound (hE : EnvOk P E) (hf : FR H β T s.fr a) (hw : W M w0 H0 H β T s.bx w) (hn : OnTo M w0 H0 a o.dst k next) (c : Call) (ho : o.op = .call c) (hc : c.callee = .builtin .clear)
    (x : Operand) (hx : c.args.toList = [x]) (hk : clearK E c.argTypes.toList (ev s x) s.bx fun bx => k (.tup []) ⟨s.fr, bx⟩) : o.wp P a w next Q := by
  obtain ⟨callee, ⟨args⟩, ⟨l⟩⟩ := c
  simp only at hc hx hk
  subst hc hx
  cases l with
  | nil => exact hk.elim
  | cons t r =>
    cases r with
    | cons _ _ => exact hk.elim
    | nil =>
      obtain ⟨ti, hti, hk⟩ := tiK_elim hk
      cases hsl : ti.slice with
      | false => rw [hsl] at hk; exact hk.elim
      | true =>
      rw [hsl] at hk
      obtain ⟨d, hd, -, hds, -⟩ := (hE.ty _ _ hti).und
      obtain rfl := hds hsl
      obtain ⟨ui, hui, hk⟩ := tiK_elim hk
      obtain ⟨i, hi, hisz, -, hzero⟩ := (hE.ty _ _ hui).inf
      cases h1 : Nat.beq ui.zero.length ui.size with
      | false => rw [h1] at hk; exact hk.elim
      | true =>
      rw [h1] at hk
      simp only at hk
      have g1 := Nat.eq_of_beq_eq_true h1
      have hxg := ev_G hf x
      generalize hex : ev s x = p at hk hxg
      generalize hax : a.eval x = vx at hxg
      have run : ∀ w', (Builtin.clear_ #[t] o.type #[vx]).run P w = .ok (.tuple #[]) w' → (execOp a.eval o).run P w = .ok (.value (.tuple #[])) w' := by
        intro w' h
        unfold execOp
        simp only [ho, resolve, Sem.run_bind, Sem.run_pure, Result.andThen_ok, invoke, builtin]
        rw [show (Array.map a.eval ⟨[x]⟩) = #[vx] from by simp [hax], h]
        rfl
      have gt : ∀ {H : HM} {β : BM} {T : TM}, G H β T (.tup []) (.tuple #[]) := .tup [] #[] rfl (fun j hj => by simp at hj)
      cases p with
      | arr b z q n cap =>
        simp only at hk
        cases hz : Nat.beq z ui.size with
        | false => rw [hz] at hk; exact hk.elim
        | true =>
        rw [hz] at hk
        simp only at hk
        have ez := Nat.eq_of_beq_eq_true hz
        cases hb : s.bx.get b none with
        | none => rw [hb] at hk; exact hk.elim
        | some cs =>
        rw [hb] at hk
        simp only at hk
        obtain ⟨X, sz, cc, dd, r, e, hkm⟩ := manyK_elim hk
        subst e
        replace hk := hkm
        clear hkm
        cases hbz : Nat.beq z sz with
        | false => rw [hbz] at hk; exact hk.elim
        | true =>
        rw [hbz] at hk
        simp only at hk
        obtain rfl := Nat.eq_of_beq_eq_true hbz
        obtain ⟨hqn, nx, hsub, hk⟩ := hk
        rw [Tr.putK_eq] at hk
        obtain ⟨hz0, hzz⟩ := hw.many _ _ _ _ _ _ hb
        obtain ⟨hs1, hs2⟩ := SubL_at hsub
        have hbl : s.bx.has b = true := by
          cases hl : s.bx.has b with
          | true => rfl
          | false => rw [Tr.get_out _ _ _ hl] at hb; cases hb
        by_cases hn0 : n = 0
        · subst hn0
          have hrun : (execOp a.eval o).run P w = .ok (.value (.tuple #[])) w := by
            refine run w ?_
            cases hxg with
            | arrE _ _ _ ad c => cases ad <;> simp [Builtin.clear_, run_und hd]
            | arr _ _ _ _ _ kk c hβ hc he => simp [Builtin.clear_, run_und hd]
          unfold Oper.wp
          rw [hrun]
          refine hn _ _ _ H β T w hk hf (hw.congr fun id => ?_) gt
          rw [Tr.get_put]
          by_cases hid : b = id
          · subst hid
            rw [if_pos ⟨rfl, hbl⟩, hb]
            simp
          · rw [if_neg (fun c => hid c.1)]
        · cases hxg with
          | arrE => exact absurd rfl hn0
          | arr _ _ _ _ _ kk c hβ hc he =>
            obtain ⟨zv, hz1, hz2⟩ := hzero (by intro c; rw [c] at g1; simp at g1; omega)
            have hzs : zv.cells.size = z := by rw [← Array.length_toList, hz2, g1, ez]
            have hvl : (Builtin.zeroCells zv.cells n).toList.length = n * z := by simp [Builtin.zeroCells, hzs]
            have hxl : xlen [SV.many X z cc dd r] = r.length * z := rfl
            have hll : (r.take q ++ (List.replicate n nx ++ r.drop (q + n))).length = r.length := by simp; omega
            have hget : ∀ m, (r.take q ++ (List.replicate n nx ++ r.drop (q + n))).getD m dd = if q ≤ m ∧ m < q + n then nx else r.getD m dd := by
              intro m
              rw [List.getD_eq_getElem?_getD, List.getD_eq_getElem?_getD]
              by_cases c1 : m < q
              · rw [List.getElem?_append_left (by simp; omega), List.getElem?_take, if_pos c1, if_neg (by omega)]
              · rw [List.getElem?_append_right (by simp; omega), List.length_take, Nat.min_eq_left (by omega)]
                by_cases c2 : m < q + n
                · rw [List.getElem?_append_left (by simp; omega), List.getElem?_replicate, if_pos (by omega), if_pos ⟨by omega, c2⟩]; rfl
                · rw [List.getElem?_append_right (by simp; omega), List.length_replicate, List.getElem?_drop, if_neg (by omega), show q + n + (m - q - n) = m by omega]
            have hbound : q * z + n * z ≤ r.length * z := by rw [← Nat.add_mul]; exact Nat.mul_le_mul_right _ hqn
            obtain ⟨k2, hk2, -, hj⟩ := hw.box b _ hb (by rw [hxl]; have : 0 < n * z := Nat.mul_pos (by omega) hz0; omega)
            obtain rfl : kk = k2 := Option.some.inj (hβ.symm.trans hk2)
            have hcell : ∀ j, j < n * z → (Builtin.zeroCells zv.cells n).toList.getD j undef = ui.zero[j % z]'(by rw [g1, ← ez]; exact Nat.mod_lt _ hz0) := by
              intro j hj
              rw [getD_toList]
              have hjl : j < n * zv.cells.size := by rw [hzs]; exact hj
              have e6 : zv.cells[j % zv.cells.size]! = zv.cells.toList.getD (j % zv.cells.size) undef := by
                rw [getD_toList]; simp [show j % zv.cells.size < zv.cells.size from Nat.mod_lt _ (by omega)]
              unfold Builtin.zeroCells
              simp only [Array.getD, Array.size_map, Array.size_range, hjl, dite_true]
              simp only [Array.getInternal_eq_getElem, Array.getElem_map, Array.getElem_range]
              rw [e6, hz2, getD_get _ _ (by rw [hzs, g1, ← ez]; exact Nat.mod_lt _ hz0)]
              simp only [hzs]
            have hw' := hw.write hb hβ (p := q * z) (vs := (Builtin.zeroCells zv.cells n).toList) (cs' := [.many X z cc dd (r.take q ++ (List.replicate n nx ++ r.drop (q + n)))]) (by rw [hvl, hxl]; exact hbound) (by
                show (r.take q ++ (List.replicate n nx ++ r.drop (q + n))).length * z = r.length * z
                rw [hll]) (fun j hj => by
                rw [hvl] at hj
                have hjr : q * z + j = (q + j / z) * z + j % z := by
                  have h0 : j = j / z * z + j % z := by rw [Nat.mul_comm]; exact (Nat.div_add_mod j z).symm
                  rw [Nat.add_mul]; omega
                have hjd : j / z < n := by rw [Nat.div_lt_iff_lt_mul hz0]; exact hj
                have hjm : j % z < z := Nat.mod_lt _ hz0
                rw [hjr, xat_many _ _ hjm, hget, if_pos ⟨Nat.le_add_right _ _, Nat.add_lt_add_left hjd _⟩, hcell j hj]
                refine G.sub (hs2 _ (by rw [(hzz _).1]; exact hjm)) ?_
                rw [at'_get _ _ _ (by simp; omega), List.getElem_map]
                exact .val _) (fun j hj hr v hv => by
                rw [hvl] at hr
                have hjr : j = j / z * z + j % z := by rw [Nat.mul_comm]; exact (Nat.div_add_mod j z).symm
                have hjm := Nat.mod_lt j hz0
                rw [hjr, xat_many _ _ hjm] at hv ⊢
                rw [hget, if_neg]
                · exact hv
                · rintro ⟨c1, c2⟩
                  have d1 := Nat.mul_le_mul_right z c1
                  have d2 := Nat.mul_le_mul_right z (show j / z + 1 ≤ q + n by omega)
                  rw [Nat.add_mul, Nat.add_mul, Nat.one_mul] at d2
                  omega) (fun X' sz' c' d' l' e => by cases e; exact hw.many _ _ _ _ _ _ hb) (side_set hll)
            have hst : (storeCells ⟨kk, q * z, none⟩ (Builtin.zeroCells zv.cells n).toList 0).run P w = .ok () (w.setCells kk (q * z + 0) (Builtin.zeroCells zv.cells n).toList) :=
              run_storeCells_cells kk _ _ 0 w (fun j hjl => by
                  obtain ⟨-, -, -, v, h4, -⟩ := hj (q * z + j) (by rw [hvl] at hjl; omega)
                  rw [Nat.add_zero, h4]; rfl)
                (fun j hjl => by rw [Nat.add_zero]; exact (hj (q * z + j) (by rw [hvl] at hjl; omega)).2.2.1)
                (fun v hv => by
                  obtain ⟨j, hj1, rfl⟩ := List.getElem_of_mem hv
                  rw [hvl] at hj1
                  have h3 := hcell j hj1
                  rw [getD_get _ _ (by rw [hvl]; exact hj1)] at h3
                  rw [h3]
                  have hjm : j % z < z := Nat.mod_lt _ hz0
                  have h4 : G H β T (at' (cc nx) (j % z) .junk) (ui.zero[j % z]'(by omega)) := by
                    refine G.sub (hs2 _ (by rw [(hzz _).1]; exact hjm)) ?_
                    rw [at'_get _ _ _ (by simp; omega), List.getElem_map]
                    exact .val _
                  exact cellOk_one (allOk_at (hzz nx).2.2 _ (by rw [(hzz _).1]; exact hjm)) h4)
            have hrun : (execOp a.eval o).run P w = .ok (.value (.tuple #[])) (w.setCells kk (q * z) (Builtin.zeroCells zv.cells n).toList) := by
              refine run _ ?_
              obtain ⟨n', rfl⟩ : ∃ n', n = n' + 1 := ⟨n - 1, by omega⟩
              simp [Builtin.clear_, run_und hd, zeroValue, typeInfo, hi, hz1]
              rw [show (storeCells ⟨kk, q * z, none⟩ (Builtin.zeroCells zv.cells (n' + 1)).toList).run P w = _ from hst]
              rfl
            unfold Oper.wp
            rw [hrun]
            exact hn _ _ _ H β T _ hk hf hw' gt
      | _ => exact hk.elim
theorem step_sound (hE : EnvOk P E) (hf : FR H β T s.fr a) (hw : W M w0 H0 H β T s.bx w) (hn : OnTo M w0 H0 a o.dst k next) (hk : stepK E (dOf o.dst) o.op s k) : o.wp P a w next Q := by
  generalize ho : o.op = op at hk
  cases op with
  | move x =>
    simp only [stepK, stepB, force_eq] at hk
    exact done_val hf hw hk (ev_G hf x) hn (by unfold execOp; simp [ho])
  | assign x =>
    simp only [stepK, stepB, force_eq] at hk
    exact done_val hf hw hk (ev_G hf x) hn (by unfold execOp; simp [ho])
  | pick c x y => exact pick_sound hf hw hn c x y ho hk
  | alloc t => exact alloc_sound hE hf hw hn t ho hk
  | box t x => exact box_sound hf hw hn t x ho hk
  | load t x =>
    simp only [stepK, stepB] at hk
    have hk2 : tiK E.ty t fun t => loadK t (ev s x) s.bx fun v => k v ⟨s.fr, s.bx⟩ := by
      cases hq : qLoad E.bs x with
      | false =>
        rw [hq] at hk
        cases hq2 : sLoad E.bs x with
        | false => rw [hq2] at hk; exact hk
        | true =>
          rw [hq2] at hk
          cases hb : isSB E.bs (ev s x) with
          | false => rw [hb] at hk; exact hk.elim
          | true => rw [hb] at hk; exact hk
      | true =>
        rw [hq] at hk
        cases hb : isQB E.bs (ev s x) with
        | false => rw [hb] at hk; exact hk.elim
        | true => rw [hb] at hk; exact hk
    exact load_sound hE hf hw hn t x ho hk2
  | nilCheck x =>
    have hx := ev_G hf x
    simp only [stepK, stepB] at hk
    generalize hev : ev s x = p at hk hx
    generalize hav : a.eval x = val at hx
    cases p with
    | box b q => cases hx with | box _ _ kk hβ => exact done_val hf hw hk (.box _ _ _ hβ) hn (by unfold execOp; simp [ho, hav])
    | plc b z i q => cases hx with | plc _ _ _ _ kk hi hβ => exact done_val hf hw hk (.plc _ _ _ _ _ hi hβ) hn (by unfold execOp; simp [ho, hav])
    | elt X z cs d l i q => cases hx with | elt _ _ _ _ _ _ _ b p vs hz hH hG => exact done_val hf hw hk (.elt _ _ _ _ _ _ _ _ _ vs hz hH hG) hn (by unfold execOp; simp [ho, hav])
    | _ => exact hk.elim
  | store t x y =>
    refine store_sound hE hf hw hn t x y ho ?_
    simp only [stepK, stepB] at hk
    cases hq : sStore E.bs x with
    | false => rw [hq] at hk; exact hk
    | true =>
      rw [hq] at hk
      cases hb : offSB E.bs (ev s x) with
      | false => rw [hb] at hk; exact hk.elim
      | true => rw [hb] at hk; exact hk
  | fieldAddr t x f => exact fieldAddr_sound hE hf hw hn t x f ho hk
  | field t x f => exact field_sound hE hf hw hn t x f ho hk
  | indexAddr t x i => exact indexAddr_sound hE hf hw hn t x i ho hk
  | binOp op t x y u => exact binOp_sound hE hf hw hn op t u x y ho hk
  | unOp op t x => exact unOp_sound hf hw hn op t x ho hk
  | extract x i => exact extract_sound hf hw hn x i ho hk
  | makeSlice t x y => exact makeVec_sound hE hf hw hn t x y ho hk
  | call c =>
    simp only [stepK, stepB] at hk
    cases hcl : isClear c.callee with
    | true =>
      rw [hcl] at hk
      simp only at hk
      generalize hargs : c.args.toList = l at hk
      match l, hk with
      | [x], hk =>
        simp only [List.map, force_eq] at hk
        exact clear_sound hE hf hw hn c ho (isClear_eq hcl) x hargs hk
    | false =>
    rw [hcl] at hk
    simp only at hk
    cases hbc : bcall E.bs c.callee with
    | some g =>
      rw [hbc] at hk
      simp only at hk
      cases hcb : E.ctrB g with
      | none => rw [hcb] at hk; exact hk.elim
      | some cb =>
        rw [hcb] at hk
        simp only [forceL_eq] at hk
        exact callB_sound hE hf hw hn g c ho (bcall_eq hbc) hcb _ hk
    | none =>
    rw [hbc] at hk
    simp only at hk
    cases hc : c.callee with
    | value f =>
      rw [hc] at hk
      simp only [callK] at hk
      cases hcf : ev s f with
      | fn g caps =>
        rw [hcf] at hk
        simp only at hk
        cases hct : E.ctr g with
        | none => rw [hct] at hk; exact hk.elim
        | some ct =>
          rw [hct] at hk
          simp only [forceL_eq] at hk
          rcases enterK_elim hk with ⟨_, x, h1, h2, h3, hk⟩ | ⟨_, tb, x, ht, ha1, ha2, h1, h2, h3, hsc, hk⟩
          · exact call_sound hE hf hw hn f g caps c ho hc hcf hct x h1 h2 h3 _ hk
          · exact lend_sound hE hf hw hn f g caps c ho hc hcf hct ht ha1 ha2 _ x h1 h2 h3 _ hsc hk
      | _ => rw [hcf] at hk; exact hk.elim
    | builtin b =>
      rw [hc] at hk
      generalize hargs : c.args.toList = l at hk
      cases b with
      | len =>
        cases l with
        | nil => exact hk.elim
        | cons x r =>
          cases r with
          | cons _ _ => exact hk.elim
          | nil => exact len_sound hE hf hw hn c ho hc x hargs hk
      | max =>
        cases l with
        | nil => exact hk.elim
        | cons x r =>
          cases r with
          | nil => exact hk.elim
          | cons y r =>
            cases r with
            | cons _ _ => exact hk.elim
            | nil =>
              simp only [callK, List.map] at hk
              generalize hex : ev s x = p at hk
              generalize hey : ev s y = q at hk
              cases p with
              | val v =>
                cases v with
                | int kk n =>
                  cases q with
                  | val v =>
                    cases v with
                    | int kk' m =>
                      simp only at hk
                      cases hik : ikEq kk kk' with
                      | false => rw [hik] at hk; exact hk.elim
                      | true =>
                        obtain rfl := ikEq_eq hik
                        rw [hik] at hk
                        exact max_sound hf hw hn c ho hc x y hargs kk n m hex hey hk
                    | _ => exact hk.elim
                  | _ => exact hk.elim
                | _ => exact hk.elim
              | _ => exact hk.elim
      | min =>
        cases l with
        | nil => exact hk.elim
        | cons x r =>
          cases r with
          | nil => exact hk.elim
          | cons y r =>
            cases r with
            | cons _ _ => exact hk.elim
            | nil =>
              simp only [callK, List.map] at hk
              generalize hex : ev s x = p at hk
              generalize hey : ev s y = q at hk
              cases p with
              | val v =>
                cases v with
                | int kk n =>
                  cases q with
                  | val v =>
                    cases v with
                    | int kk' m =>
                      simp only at hk
                      cases hik : ikEq kk kk' with
                      | false => rw [hik] at hk; exact hk.elim
                      | true =>
                        obtain rfl := ikEq_eq hik
                        rw [hik] at hk
                        exact min_sound hf hw hn c ho hc x y hargs kk n m hex hey hk
                    | _ => exact hk.elim
                  | _ => exact hk.elim
                | _ => exact hk.elim
              | _ => exact hk.elim
      | _ => exact hk.elim
    | invoke _ _ => rw [hc] at hk; exact hk.elim
  | build t parts => exact build_sound hE hf hw hn t parts ho hk
  | buildSlice t len parts => exact buildSlice_sound hE hf hw hn t len parts ho hk
  | slice t x lo hi mx => exact slice_sound hE hf hw hn t x lo hi mx ho hk
  | makeFunc f fs cs => exact makeFunc_sound hf hw hn f fs cs ho hk
  | convert s1 t x => exact convert_sound hE hf hw hn s1 t x ho hk
  | index t x i => exact index_sound hE hf hw hn t x i ho hk
  | _ => exact hk.elim
end
end Go.Proofs.Yteccinlmblijfaa.Ax
