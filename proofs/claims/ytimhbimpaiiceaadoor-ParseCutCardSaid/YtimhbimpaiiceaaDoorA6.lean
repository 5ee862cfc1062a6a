/- Code: sequences, tests, loops; a region in the text's order. -/
import Derived.Test.YtimhbimpaiiceaaDoorA5
import Derived.Test.YtimhbimpaiiceaaDoorA11
import Derived.Deep.LoopGhost
set_option linter.unusedVariables false
set_option linter.unusedSimpArgs false
set_option linter.unusedSectionVars false
namespace Go.Proofs.YtimhbimpaiiceaaDoor.Ax
open Go Go.RowKit

/-! ### 1. What an operation comes to, as one value -/
theorem tiK_rel {α : Type _} : ∀ {l : List (Nat × α)} {n : Nat} {k : α → Prop}, tiK l n k → ∃ v, (∀ k' : α → Prop, k' v → tiK l n k') ∧ k v
  | [], _, _, h => h.elim
  | (i, v) :: r, n, k, h => by
    unfold tiK at h
    cases e : Nat.beq i n with
    | true => rw [e] at h; exact ⟨v, fun k' hk' => by unfold tiK; rw [e]; exact hk', h⟩
    | false =>
      rw [e] at h
      obtain ⟨u, h1, h2⟩ := tiK_rel (l := r) h
      exact ⟨u, fun k' hk' => by unfold tiK; rw [e]; exact h1 k' hk', h2⟩
theorem fldK_rel : ∀ {l : List (Nat × Nat)} {f : Nat} {k : Nat → Nat → Prop}, fldK l f k → ∃ q u, (∀ k' : Nat → Nat → Prop, k' q u → fldK l f k') ∧ k q u
  | [], _, _, h => h.elim
  | (o, t) :: _, 0, _, h => ⟨o, t, fun _ h => h, h⟩
  | _ :: r, f + 1, _, h => fldK_rel (l := r) h
theorem cellsK_rel {x : SV} {k : List SV → Prop} (h : cellsK x k) : ∃ l, (∀ k' : List SV → Prop, k' l → cellsK x k') ∧ k l := by
  cases x with
  | val u => cases u <;> first | exact h.elim | exact ⟨_, fun _ h => h, h⟩
  | _ => first | exact h.elim | exact ⟨_, fun _ h => h, h⟩
theorem asB_rel {x : SV} {k : Bool → Prop} (h : asB x k) : ∃ b, (∀ k' : Bool → Prop, k' b → asB x k') ∧ k b := by
  cases x with
  | val u => cases u <;> first | exact h.elim | exact ⟨_, fun _ h => h, h⟩
  | _ => first | exact h.elim | exact ⟨_, fun _ h => h, h⟩
theorem manyK_rel {cs : List SV} {k : (T : Type) → Nat → (T → List SV) → T → List T → Prop} (h : manyK cs k) : ∃ T sz c d l, (∀ k' : (T : Type) → Nat → (T → List SV) → T → List T → Prop, k' T sz c d l → manyK cs k') ∧ k T sz c d l := by
  obtain ⟨T, sz, c, d, l, rfl, h⟩ := manyK_elim h
  exact ⟨T, sz, c, d, l, fun _ h => h, h⟩
theorem loadK_rel {t : TI} {p : SV} {bx : Tr (Option (List SV))} {k : SV → Prop} (h : loadK t p bx k) : ∃ v, (∀ k' : SV → Prop, k' v → loadK t p bx k') ∧ k v := by
  unfold loadK at h ⊢
  cases p with
  | box b o =>
    simp only at h ⊢
    cases hb : bx.get b none with
    | none => rw [hb] at h; exact h.elim
    | some cs =>
      rw [hb] at h
      simp only at h ⊢
      cases hpl : plain cs with
      | false => rw [hpl] at h; exact h.elim
      | true =>
      rw [hpl] at h
      simp only at h ⊢
      cases hl : Nat.ble (o + t.size) cs.length with
      | false => rw [hl] at h; exact h.elim
      | true => rw [hl] at h; simp only [wholeK_eq] at h ⊢; exact ⟨_, fun _ h => h, h⟩
  | plc b z i o =>
    simp only at h ⊢
    cases hb : bx.get b none with
    | none => rw [hb] at h; exact h.elim
    | some cs =>
      rw [hb] at h
      simp only at h ⊢
      obtain ⟨T, sz, c, d, l, h1, h2⟩ := manyK_rel h
      cases hz : Nat.beq z sz with
      | false => rw [hz] at h2; exact h2.elim
      | true =>
      rw [hz] at h2
      simp only at h2
      cases hl : Nat.ble (o + t.size) sz with
      | false => rw [hl] at h2; exact h2.elim
      | true =>
        rw [hl] at h2
        simp only at h2
        cases hf : ownFree.ownFrees (takeN t.size (dropN o (c (l.getD i.toNat d)))) with
        | false => rw [hf] at h2; exact h2.elim
        | true =>
        rw [hf] at h2
        simp only [wholeK_eq] at h2
        refine ⟨_, fun k' hk' => h1 _ ?_, h2.2⟩
        simp only [hz, hl, hf, wholeK_eq]
        exact ⟨h2.1, hk'⟩
  | elt X z cs d l i o =>
    simp only at h ⊢
    cases hl : Nat.ble (o + t.size) z with
    | false => rw [hl] at h; exact h.elim
    | true =>
      rw [hl] at h
      simp only at h ⊢
      cases hf : ownFree.ownFrees (takeN t.size (dropN o (cs (l.getD i.toNat d)))) with
      | false => rw [hf] at h; exact h.elim
      | true => rw [hf] at h; simp only [wholeK_eq] at h ⊢; exact ⟨_, fun _ h => h, h⟩
  | _ => exact h.elim
theorem storeK_rel {t : TI} {p v : SV} {bx : Tr (Option (List SV))} {k : Tr (Option (List SV)) → Prop} (h : storeK t p v bx k) :
    ∃ y, (∀ k' : Tr (Option (List SV)) → Prop, k' y → storeK t p v bx k') ∧ k y := by
  unfold storeK at h ⊢
  cases p with
  | box b o =>
    simp only at h ⊢
    cases hb : bx.get b none with
    | none => rw [hb] at h; exact h.elim
    | some cs =>
      rw [hb] at h
      simp only at h ⊢
      cases hpl : plain cs with
      | false => rw [hpl] at h; exact h.elim
      | true =>
      rw [hpl] at h
      simp only at h ⊢
      obtain ⟨l, h1, h2⟩ := cellsK_rel h
      cases ho : allOk l with
      | false => rw [ho] at h2; exact h2.elim
      | true =>
        rw [ho] at h2
        simp only at h2
        cases he : Nat.beq l.length t.size with
        | false => rw [he] at h2; exact h2.elim
        | true =>
          rw [he] at h2
          simp only at h2
          cases hl : Nat.ble (o + l.length) cs.length with
          | false => rw [hl] at h2; exact h2.elim
          | true =>
            rw [hl] at h2
            simp only [forceL_eq, Tr.putK_eq] at h2 h1 ⊢
            refine ⟨_, fun k' hk' => h1 _ ?_, h2⟩
            simp only [ho, he, hl]
            exact hk'
  | plc b z i o =>
    simp only at h ⊢
    cases hb : bx.get b none with
    | none => rw [hb] at h; exact h.elim
    | some cs =>
      rw [hb] at h
      simp only at h ⊢
      obtain ⟨T, sz, c, d, r, g1, g2⟩ := manyK_rel h
      cases hz : Nat.beq z sz with
      | false => rw [hz] at g2; exact g2.elim
      | true =>
      rw [hz] at g2
      simp only at g2
      obtain ⟨l, h1, h2⟩ := cellsK_rel g2
      cases ho : allOk l with
      | false => rw [ho] at h2; exact h2.elim
      | true =>
        rw [ho] at h2
        simp only at h2
        cases he : Nat.beq l.length t.size with
        | false => rw [he] at h2; exact h2.elim
        | true =>
          rw [he] at h2
          simp only at h2
          cases hl : Nat.ble (o + l.length) sz with
          | false => rw [hl] at h2; exact h2.elim
          | true =>
            rw [hl] at h2
            simp only [Tr.putK_eq] at h2
            obtain ⟨h3, nx, h4, h5⟩ := h2
            refine ⟨_, fun k' hk' => g1 _ ?_, h5⟩
            simp only [hz]
            refine h1 _ ?_
            simp only [ho, he, hl, Tr.putK_eq]
            exact ⟨h3, nx, h4, hk'⟩
  | _ => exact h.elim
theorem intBin_rel {op : BinOp} {kk : IntKind} {a b : Int} {k : SV → Prop} (h : intBin op kk a b k) : ∃ v, (∀ k' : SV → Prop, k' v → intBin op kk a b k') ∧ k v := by
  cases op <;> first
    | exact h.elim
    | exact ⟨_, fun _ hk => ⟨h.1, hk⟩, h.2⟩
    | exact ⟨_, fun _ hk => hk, h⟩
theorem strBin_rel {op : BinOp} {a b : ByteArray} {k : SV → Prop} (h : strBin op a b k) : ∃ v, (∀ k' : SV → Prop, k' v → strBin op a b k') ∧ k v := by
  cases op <;> first
    | exact h.elim
    | exact ⟨_, fun _ hk => ⟨h.1, hk⟩, h.2⟩
    | exact ⟨_, fun _ hk => hk, h⟩
theorem bool2_rel {E : Env} {t : Nat} {op : BinOp} {a : Bool} {y : SV} {k : SV → Prop} (h : bool2 E t op a y k) : ∃ v, (∀ k' : SV → Prop, k' v → bool2 E t op a y k') ∧ k v := by
  obtain ⟨ti, h1, h2⟩ := tiK_rel h
  cases hb : ti.bool with
  | false => rw [hb] at h2; exact h2.elim
  | true =>
    rw [hb] at h2
    obtain ⟨b, h3, h4⟩ := asB_rel h2
    cases op <;> first
      | exact h4.elim
      | exact ⟨_, fun k' hk' => h1 _ (by rw [hb]; exact h3 _ hk'), h4⟩
theorem nilBin_rel {E : Env} {t : Nat} {op : BinOp} {e : Bool} {y : SV} {k : SV → Prop} (h : nilBin E t op e y k) : ∃ v, (∀ k' : SV → Prop, k' v → nilBin E t op e y k') ∧ k v := by
  obtain ⟨ti, h1, h2⟩ := tiK_rel h
  cases hs : ti.slice with
  | false => rw [hs] at h2; exact h2.elim
  | true =>
    rw [hs] at h2
    cases y with
    | val v =>
      cases v with
      | slice a n c =>
        cases a with
        | some _ => exact h2.elim
        | none =>
          cases n with
          | succ _ => exact h2.elim
          | zero =>
            cases c with
            | succ _ => exact h2.elim
            | zero =>
              cases op with
              | eql => exact ⟨_, fun k' hk' => h1 _ (by rw [hs]; exact hk'), h2⟩
              | neq => exact ⟨_, fun k' hk' => h1 _ (by rw [hs]; exact hk'), h2⟩
              | _ => exact h2.elim
      | _ => exact h2.elim
    | _ => exact h2.elim
theorem convK_rel {E : Env} {s t : Nat} {x : SV} {k : SV → Prop} (h : convK E s t x k) : ∃ v, (∀ k' : SV → Prop, k' v → convK E s t x k') ∧ k v := by
  obtain ⟨si, g1, h⟩ := tiK_rel h
  obtain ⟨ti, h1, h2⟩ := tiK_rel h
  cases hs : ti.int with
  | some kk =>
    rw [hs] at h2
    cases x with
    | val v =>
      cases v with
      | int k0 n => exact ⟨_, fun k' hk' => g1 _ (h1 _ (by rw [hs]; exact hk')), h2⟩
      | _ => exact h2.elim
    | _ => exact h2.elim
  | none =>
    rw [hs] at h2
    simp only at h2
    cases hst : ti.str with
    | true =>
      rw [hst] at h2
      simp only at h2
      cases hsl : si.slice with
      | true =>
        rw [hsl] at h2
        obtain ⟨ui, h3, h4⟩ := tiK_rel h2
        cases hu : isU8 ui.int with
        | false => rw [hu] at h4; exact h4.elim
        | true =>
          rw [hu] at h4
          obtain ⟨l, h5, h6⟩ := h4
          refine ⟨_, fun k' hk' => g1 _ (h1 _ ?_), h6⟩
          simp only [hs, hst, hsl]
          refine h3 _ ?_
          simp only [hu]
          exact ⟨l, h5, hk'⟩
      | false =>
        rw [hsl] at h2
        simp only at h2
        cases hss : si.str with
        | false => rw [hss] at h2; exact h2.elim
        | true =>
          rw [hss] at h2
          cases x with
          | val v =>
            cases v with
            | string b => exact ⟨_, fun k' hk' => g1 _ (h1 _ (by simp only [hs, hst, hsl, hss]; exact hk')), h2⟩
            | _ => exact h2.elim
          | _ => exact h2.elim
    | false =>
      rw [hst] at h2
      simp only at h2
      cases hsl : ti.slice with
      | false => rw [hsl] at h2; exact h2.elim
      | true =>
        rw [hsl] at h2
        obtain ⟨ui, h3, h4⟩ := tiK_rel h2
        cases hu : isU8 ui.int with
        | false => rw [hu] at h4; exact h4.elim
        | true =>
          rw [hu] at h4
          cases x with
          | val v =>
            cases v with
            | string b =>
              refine ⟨_, fun k' hk' => g1 _ (h1 _ ?_), h4⟩
              simp only [hs, hst, hsl]
              refine h3 _ ?_
              simp only [hu]
              exact hk'
            | _ => exact h4.elim
          | arr b z o n c =>
            simp only at h4
            cases hb : Nat.beq s t with
            | false => rw [hb] at h4; exact h4.elim
            | true =>
              rw [hb] at h4
              simp only at h4
              cases hn : Nat.ble 1 n with
              | false => rw [hn] at h4; exact h4.elim
              | true =>
                rw [hn] at h4
                refine ⟨_, fun k' hk' => g1 _ (h1 _ ?_), h4⟩
                simp only [hs, hst, hsl]
                refine h3 _ ?_
                simp only [hu, hb, hn]
                exact hk'
          | _ => exact h4.elim
theorem indexK_rel {E : Env} {t : Nat} {x i : SV} {k : SV → Prop} (h : indexK E t x i k) : ∃ v, (∀ k' : SV → Prop, k' v → indexK E t x i k') ∧ k v := by
  obtain ⟨ti, h1, h2⟩ := tiK_rel h
  cases hs : ti.str with
  | false => rw [hs] at h2; exact h2.elim
  | true =>
    rw [hs] at h2
    cases x with
    | val v =>
      cases v with
      | string z =>
        cases i with
        | val u =>
          cases u with
          | int k0 n => exact ⟨_, fun k' hk' => h1 _ (by rw [hs]; exact ⟨h2.1, hk'⟩), h2.2⟩
          | _ => exact h2.elim
        | _ => exact h2.elim
      | _ => exact h2.elim
    | _ => exact h2.elim
theorem ifcBin_rel {E : Env} {t : Nat} {op : BinOp} {b : Bool} {y : SV} {k : SV → Prop} (h : ifcBin E t op b y k) : ∃ v, (∀ k' : SV → Prop, k' v → ifcBin E t op b y k') ∧ k v := by
  obtain ⟨ti, h1, h2⟩ := tiK_rel h
  cases hs : ti.iface with
  | false => rw [hs] at h2; exact h2.elim
  | true =>
    rw [hs] at h2
    cases y with
    | val v =>
      cases v with
      | nilIface =>
        cases op with
        | eql => exact ⟨_, fun k' hk' => h1 _ (by rw [hs]; exact hk'), h2⟩
        | neq => exact ⟨_, fun k' hk' => h1 _ (by rw [hs]; exact hk'), h2⟩
        | _ => exact h2.elim
      | _ => exact h2.elim
    | _ => exact h2.elim
theorem binK_rel {E : Env} {t : Nat} {op : BinOp} {x y : SV} {c : Bool} {k : SV → Prop} (h : binK E t op x y c k) : ∃ v, (∀ k' : SV → Prop, k' v → binK E t op x y c k') ∧ k v := by
  unfold binK at h ⊢
  cases x with
  | ifc => exact ifcBin_rel h
  | row X sz cs dd l => exact nilBin_rel h
  | own X sz cs dd l id => exact nilBin_rel h
  | tt => exact bool2_rel h
  | ff => exact bool2_rel h
  | agg l =>
    cases y with
    | agg r =>
      simp only at h ⊢
      cases hc : E.eqs t with
      | none => rw [hc] at h; exact h.elim
      | some c =>
        rw [hc] at h
        obtain ⟨u, v, h1, h2, h3⟩ := h
        cases op <;> first
          | exact h3.elim
          | exact ⟨_, fun k' hk' => ⟨u, v, h1, h2, hk'⟩, h3⟩
    | _ => exact h.elim
  | val v =>
    cases v with
    | bool b => exact bool2_rel h
    | nilIface =>
      cases c with
      | true => exact ifcBin_rel h
      | false => exact h.elim
    | int kk n =>
      cases y with
      | val u =>
        cases u with
        | int kk' m =>
          simp only at h ⊢
          cases hi : ikEq kk kk' with
          | false => rw [hi] at h; exact h.elim
          | true => rw [hi] at h; exact intBin_rel h
        | _ => exact h.elim
      | _ => exact h.elim
    | string n =>
      cases y with
      | val u =>
        cases u with
        | string m => exact strBin_rel h
        | _ => exact h.elim
      | _ => exact h.elim
    | _ => exact h.elim
  | _ => exact h.elim
theorem unK_rel {op : UnOp} {x : SV} {k : SV → Prop} (h : unK op x k) : ∃ v, (∀ k' : SV → Prop, k' v → unK op x k') ∧ k v := by
  cases op with
  | not =>
    cases x with
    | val u => cases u <;> first | exact h.elim | exact ⟨_, fun _ h => h, h⟩
    | _ => first | exact h.elim | exact ⟨_, fun _ h => h, h⟩
  | neg =>
    cases x with
    | val u => cases u <;> first | exact h.elim | exact ⟨_, fun _ h => h, h⟩
    | _ => first | exact h.elim | exact ⟨_, fun _ h => h, h⟩
  | _ => exact h.elim
theorem lenK_rel {x : SV} {k : SV → Prop} (h : lenK x k) : ∃ v, (∀ k' : SV → Prop, k' v → lenK x k') ∧ k v := by
  cases x with
  | val u =>
    cases u with
    | slice ad n c =>
      cases ad with
      | some _ => exact h.elim
      | none => cases n with
        | zero => exact ⟨_, fun _ h => h, h⟩
        | succ n => exact h.elim
    | _ => exact h.elim
  | _ => first | exact h.elim | exact ⟨_, fun _ h => h, h⟩
theorem callK_rel {E : Env} {d : Nat} {bx : Tr (Option (List SV))} {c : Callee} {ρ : Operand → SV} {ts : List Nat} {args : List SV} {k : SV → Prop} (h : callK E d bx c ρ ts args k) : ∃ v, (∀ k' : SV → Prop, k' v → callK E d bx c ρ ts args k') ∧ k v := by
  cases c with
  | value f =>
    simp only [callK] at h ⊢
    cases hf : ρ f with
    | fn g caps =>
      rw [hf] at h
      simp only at h ⊢
      cases hc : E.ctr g with
      | none => rw [hc] at h; exact h.elim
      | some ct =>
        rw [hc] at h
        simp only [forceL_eq] at h ⊢
        exact enterK_rel h
    | _ => rw [hf] at h; exact h.elim
  | builtin b =>
    cases b with
    | len =>
      cases args with
      | nil => exact h.elim
      | cons x r =>
        cases r with
        | cons _ _ => exact h.elim
        | nil =>
          simp only [callK] at h ⊢
          cases ts with
          | nil => exact h.elim
          | cons t r =>
            cases r with
            | cons _ _ => exact h.elim
            | nil =>
              obtain ⟨ti, h1, h2⟩ := tiK_rel h
              cases hs : ti.slice with
              | true =>
                rw [hs] at h2
                obtain ⟨v, h3, h4⟩ := lenK_rel h2
                exact ⟨v, fun k' hk' => h1 _ (by rw [hs]; exact h3 _ hk'), h4⟩
              | false =>
                rw [hs] at h2
                simp only at h2
                cases ht : ti.str with
                | false => rw [ht] at h2; exact h2.elim
                | true =>
                  rw [ht] at h2
                  cases x with
                  | val u =>
                    cases u with
                    | string m => exact ⟨_, fun k' hk' => h1 _ (by rw [hs, ht]; exact hk'), h2⟩
                    | _ => exact h2.elim
                  | _ => exact h2.elim
    | max =>
      cases args with
      | nil => exact h.elim
      | cons x r =>
        cases r with
        | nil => exact h.elim
        | cons y r =>
          cases r with
          | cons _ _ => exact h.elim
          | nil =>
            simp only [callK] at h ⊢
            cases x with
            | val u =>
              cases u with
              | int kk n =>
                cases y with
                | val v =>
                  cases v with
                  | int kk' m =>
                    simp only at h ⊢
                    cases hi : ikEq kk kk' with
                    | false => rw [hi] at h; exact h.elim
                    | true => rw [hi] at h; exact ⟨_, fun k' hk' => hk', h⟩
                  | _ => exact h.elim
                | _ => exact h.elim
              | _ => exact h.elim
            | _ => exact h.elim
    | min =>
      cases args with
      | nil => exact h.elim
      | cons x r =>
        cases r with
        | nil => exact h.elim
        | cons y r =>
          cases r with
          | cons _ _ => exact h.elim
          | nil =>
            simp only [callK] at h ⊢
            cases x with
            | val u =>
              cases u with
              | int kk n =>
                cases y with
                | val v =>
                  cases v with
                  | int kk' m =>
                    simp only at h ⊢
                    cases hi : ikEq kk kk' with
                    | false => rw [hi] at h; exact h.elim
                    | true => rw [hi] at h; exact ⟨_, fun k' hk' => hk', h⟩
                  | _ => exact h.elim
                | _ => exact h.elim
              | _ => exact h.elim
            | _ => exact h.elim
    | _ => exact h.elim
  | invoke _ _ => exact h.elim

theorem fillK_rel {ρ : Operand → SV} {place : Nat → (Nat → Nat → Prop) → Prop} (hp : ∀ (i : Nat) (k : Nat → Nat → Prop), place i k → ∃ o n, (∀ k' : Nat → Nat → Prop, k' o n → place i k') ∧ k o n) :
    ∀ {parts : List (Nat × Operand)} {cs : List SV} {k : List SV → Prop}, fillK ρ place parts cs k → ∃ y, (∀ k' : List SV → Prop, k' y → fillK ρ place parts cs k') ∧ k y
  | [], cs, k, h => ⟨cs, fun _ h => h, h⟩
  | (i, x) :: r, cs, k, h => by
    obtain ⟨q, n, h1, h2⟩ := hp _ _ h
    obtain ⟨vs, h3, h4⟩ := cellsK_rel h2
    cases hb : Nat.beq vs.length n with
    | false => rw [hb] at h4; exact h4.elim
    | true =>
      rw [hb] at h4
      simp only at h4
      cases hl : Nat.ble (q + n) cs.length with
      | false => rw [hl] at h4; exact h4.elim
      | true =>
        rw [hl] at h4
        simp only [forceL_eq] at h4
        obtain ⟨y, h5, h6⟩ := fillK_rel hp h4
        refine ⟨y, fun k' hk' => h1 _ (h3 _ ?_), h6⟩
        rw [hb]
        simp only [hl, forceL_eq]
        exact h5 _ hk'
theorem buildK_rel {E : Env} {ρ : Operand → SV} {t : Nat} {parts : List (Nat × Operand)} {k : SV → Prop} (h : buildK E ρ t parts k) : ∃ v, (∀ k' : SV → Prop, k' v → buildK E ρ t parts k') ∧ k v := by
  obtain ⟨ti, h1, h2⟩ := tiK_rel h
  cases hfl : ti.flds with
  | nil => rw [hfl] at h2; exact h2.elim
  | cons f r =>
    rw [hfl] at h2
    simp only at h2
    cases hz : Nat.ble 1 ti.zero.length with
    | false => rw [hz] at h2; exact h2.elim
    | true =>
      rw [hz] at h2
      simp only at h2
      obtain ⟨y, h3, h4⟩ := fillK_rel (fun i k h => by
        obtain ⟨q, u, g1, g2⟩ := fldK_rel h
        obtain ⟨ui, g3, g4⟩ := tiK_rel g2
        exact ⟨q, ui.size, fun k' hk' => g1 _ (g3 _ hk'), g4⟩) h2
      refine ⟨_, fun k' hk' => h1 _ ?_, h4⟩
      rw [hfl]
      simp only [hz]
      exact h3 _ hk'
theorem buildSliceK_rel {E : Env} {d : Nat} {ρ : Operand → SV} {t len : Nat} {parts : List (Nat × Operand)} {k : SV → Prop} (h : buildSliceK E d ρ t len parts k) : ∃ v, (∀ k' : SV → Prop, k' v → buildSliceK E d ρ t len parts k') ∧ k v := by
  obtain ⟨ti, h1, h2⟩ := tiK_rel h
  cases hs : ti.slice with
  | false => rw [hs] at h2; exact h2.elim
  | true =>
    rw [hs] at h2
    simp only at h2
    cases hl0 : Nat.beq len 0 with
    | true =>
      rw [hl0] at h2
      obtain ⟨ui, h3, h4⟩ := tiK_rel h2
      cases hn : isNil parts with
      | false => rw [hn] at h4; exact h4.elim
      | true =>
        rw [hn] at h4
        refine ⟨_, fun k' hk' => h1 _ ?_, h4⟩
        simp only [hs, hl0]
        exact h3 _ (by rw [hn]; exact hk')
    | false =>
    rw [hl0] at h2
    obtain ⟨ui, h3, h4⟩ := tiK_rel h2
    cases hb : Nat.beq ui.zero.length ui.size with
    | false => rw [hb] at h4; exact h4.elim
    | true =>
      rw [hb] at h4
      simp only at h4
      cases hp : Nat.ble 1 (len * ui.size) with
      | false => rw [hp] at h4; exact h4.elim
      | true =>
        rw [hp] at h4
        simp only at h4
        cases hm : Nat.ble (len * ui.size) 16777216 with
        | false => rw [hm] at h4; exact h4.elim
        | true =>
          rw [hm] at h4
          simp only at h4
          obtain ⟨y, h5, X, cs, e, l, h6, h7, h8, h9⟩ := fillK_rel (fun i k h => ⟨_, _, fun _ h => h, h⟩) h4
          refine ⟨_, fun k' hk' => h1 _ ?_, h9⟩
          simp only [hs, hl0]
          refine h3 _ ?_
          simp only [hb, hp, hm]
          exact h5 _ ⟨X, cs, e, l, h6, h7, h8, hk'⟩
theorem newVecK_rel {d : Nat} {bx : Tr (Option (List SV))} {sz n : Nat} {ok : (T : Type) → (T → List SV) → List T → Prop} {k : SV → Tr (Option (List SV)) → Prop} (h : newVecK d bx sz n ok k) :
    ∃ v b, (∀ k' : SV → Tr (Option (List SV)) → Prop, k' v b → newVecK d bx sz n ok k') ∧ k v b := by
  obtain ⟨h1, h2, T, cs, e, l, h3, h4, h5, h6⟩ := newVecK_elim h
  refine ⟨_, _, fun k' hk' => ?_, h6⟩
  unfold newVecK
  rw [h1]
  simp only
  rw [h2]
  exact ⟨T, cs, e, l, ⟨h3, h4⟩, h5, by rw [Tr.putK_eq]; exact hk'⟩
theorem buildVecK_rel {E : Env} {d : Nat} {ρ : Operand → SV} {t len : Nat} {parts : List (Nat × Operand)} {bx : Tr (Option (List SV))} {k : SV → Tr (Option (List SV)) → Prop} (h : buildVecK E d ρ t len parts bx k) :
    ∃ v b, (∀ k' : SV → Tr (Option (List SV)) → Prop, k' v b → buildVecK E d ρ t len parts bx k') ∧ k v b := by
  obtain ⟨ti, h1, h2⟩ := tiK_rel h
  cases hs : ti.slice with
  | false => rw [hs] at h2; exact h2.elim
  | true =>
    rw [hs] at h2
    obtain ⟨ui, h3, h4⟩ := tiK_rel h2
    cases hb : Nat.beq ui.zero.length ui.size with
    | false => rw [hb] at h4; exact h4.elim
    | true =>
      rw [hb] at h4
      simp only at h4
      cases hp : Nat.ble 1 (len * ui.size) with
      | false => rw [hp] at h4; exact h4.elim
      | true =>
        rw [hp] at h4
        simp only at h4
        cases hm : Nat.ble (len * ui.size) 16777216 with
        | false => rw [hm] at h4; exact h4.elim
        | true =>
          rw [hm] at h4
          simp only at h4
          obtain ⟨y, h5, h6⟩ := fillK_rel (fun i k h => ⟨_, _, fun _ h => h, h⟩) h4
          obtain ⟨v, b, h7, h8⟩ := newVecK_rel h6
          refine ⟨v, b, fun k' hk' => h1 _ ?_, h8⟩
          rw [hs]
          refine h3 _ ?_
          simp only [hb, hp, hm]
          exact h5 _ (h7 _ hk')
theorem makeVecK_rel {E : Env} {d t : Nat} {x y : SV} {bx : Tr (Option (List SV))} {k : SV → Tr (Option (List SV)) → Prop} (h : makeVecK E d t x y bx k) :
    ∃ v b, (∀ k' : SV → Tr (Option (List SV)) → Prop, k' v b → makeVecK E d t x y bx k') ∧ k v b := by
  obtain ⟨ti, h1, h2⟩ := tiK_rel h
  cases hs : ti.slice with
  | false => rw [hs] at h2; exact h2.elim
  | true =>
    rw [hs] at h2
    obtain ⟨ui, h3, h4⟩ := tiK_rel h2
    cases hb : Nat.beq ui.zero.length ui.size with
    | false => rw [hb] at h4; exact h4.elim
    | true =>
      rw [hb] at h4
      simp only at h4
      cases hp : Nat.ble 1 ui.size with
      | false => rw [hp] at h4; exact h4.elim
      | true =>
        rw [hp] at h4
        simp only at h4
        cases x with
        | val v =>
          cases v with
          | int k1 n =>
            cases y with
            | val v =>
              cases v with
              | int k2 c =>
                obtain ⟨g1, g2⟩ := h4
                obtain ⟨v, b, h7, h8⟩ := newVecK_rel g2
                refine ⟨v, b, fun k' hk' => h1 _ ?_, h8⟩
                rw [hs]
                refine h3 _ ?_
                simp only [hb, hp]
                exact ⟨g1, h7 _ hk'⟩
              | _ => exact h4.elim
            | _ => exact h4.elim
          | _ => exact h4.elim
        | _ => exact h4.elim
theorem clearK_rel {E : Env} {ts : List Nat} {x : SV} {bx : Tr (Option (List SV))} {k : Tr (Option (List SV)) → Prop} (h : clearK E ts x bx k) :
    ∃ b, (∀ k' : Tr (Option (List SV)) → Prop, k' b → clearK E ts x bx k') ∧ k b := by
  unfold clearK at h ⊢
  match ts, h with
  | [t], h =>
    simp only at h ⊢
    obtain ⟨ti, h1, h2⟩ := tiK_rel h
    cases hs : ti.slice with
    | false => rw [hs] at h2; exact h2.elim
    | true =>
      rw [hs] at h2
      obtain ⟨ui, h3, h4⟩ := tiK_rel h2
      cases hb : Nat.beq ui.zero.length ui.size with
      | false => rw [hb] at h4; exact h4.elim
      | true =>
        rw [hb] at h4
        simp only at h4
        cases x with
        | arr b z o n cap =>
          simp only at h4
          cases hz : Nat.beq z ui.size with
          | false => rw [hz] at h4; exact h4.elim
          | true =>
            rw [hz] at h4
            simp only at h4
            cases hg : bx.get b none with
            | none => rw [hg] at h4; exact h4.elim
            | some cs =>
              rw [hg] at h4
              simp only at h4
              obtain ⟨T, sz, c, d, l, g1, g2⟩ := manyK_rel h4
              cases hz2 : Nat.beq z sz with
              | false => rw [hz2] at g2; exact g2.elim
              | true =>
                rw [hz2] at g2
                simp only [Tr.putK_eq] at g2
                obtain ⟨g3, nx, g4, g5⟩ := g2
                refine ⟨_, fun k' hk' => h1 _ ?_, g5⟩
                rw [hs]
                refine h3 _ ?_
                simp only [hb, hz, hg]
                refine g1 _ ?_
                simp only [hz2, Tr.putK_eq]
                exact ⟨g3, nx, g4, hk'⟩
        | _ => exact h4.elim
theorem lowK_rel {x : Option SV} {k : Int → Prop} (h : lowK x k) : ∃ v, (∀ k' : Int → Prop, k' v → lowK x k') ∧ k v := by
  cases x with
  | none => exact ⟨_, fun _ h => h, h⟩
  | some x =>
    cases x with
    | val v => cases v <;> first | exact h.elim | exact ⟨_, fun _ h => h, h⟩
    | _ => exact h.elim
theorem cutRow_rel {X : Type} {l : List X} {x : Option SV} {lo : Int} {k : List X → Prop} (h : cutRow l x lo k) : ∃ v, (∀ k' : List X → Prop, k' v → cutRow l x lo k') ∧ k v := by
  cases x with
  | none => exact ⟨_, fun _ hk => ⟨h.1, hk⟩, h.2⟩
  | some x =>
    cases x with
    | val v => cases v <;> first | exact h.elim | exact ⟨_, fun _ hk => ⟨h.1, hk⟩, h.2⟩
    | _ => exact h.elim
theorem cutStr_rel {b : ByteArray} {x : Option SV} {lo : Int} {k : ByteArray → Prop} (h : cutStr b x lo k) : ∃ v, (∀ k' : ByteArray → Prop, k' v → cutStr b x lo k') ∧ k v := by
  cases x with
  | none => exact ⟨_, fun _ hk => ⟨h.1, hk⟩, h.2⟩
  | some x =>
    cases x with
    | val v => cases v <;> first | exact h.elim | exact ⟨_, fun _ hk => ⟨h.1, hk⟩, h.2⟩
    | _ => exact h.elim
theorem cutA_rel {n : Nat} {x : Option SV} {lo : Int} {k : Nat → Nat → Prop} (h : cutA n x lo k) : ∃ u v, (∀ k' : Nat → Nat → Prop, k' u v → cutA n x lo k') ∧ k u v := by
  cases x with
  | none => exact ⟨_, _, fun _ hk => ⟨h.1, hk⟩, h.2⟩
  | some x =>
    cases x with
    | val v => cases v <;> first | exact h.elim | exact ⟨_, _, fun _ hk => ⟨h.1, hk⟩, h.2⟩
    | _ => exact h.elim
theorem cutK_rel {E : Env} {t : TI} {x : SV} {lo hi : Option SV} {k : SV → Prop} (h : cutK E t x lo hi k) : ∃ v, (∀ k' : SV → Prop, k' v → cutK E t x lo hi k') ∧ k v := by
  unfold cutK at h ⊢
  cases hs : t.slice with
  | true =>
    rw [hs] at h
    obtain ⟨ui, h1, h2⟩ := tiK_rel h
    cases x with
    | row X z cs dd l =>
      simp only at h2
      cases hz : Nat.beq z ui.size with
      | false => rw [hz] at h2; exact h2.elim
      | true =>
        rw [hz] at h2
        obtain ⟨a, h3, h4⟩ := lowK_rel h2
        obtain ⟨b, h5, h6⟩ := cutRow_rel h4
        refine ⟨_, fun k' hk' => h1 _ ?_, h6⟩
        simp only [hz]
        exact h3 _ (h5 _ hk')
    | own X z cs dd l id =>
      simp only at h2
      cases hz : Nat.beq z ui.size with
      | false => rw [hz] at h2; exact h2.elim
      | true =>
        rw [hz] at h2
        obtain ⟨a, h3, h4⟩ := lowK_rel h2
        obtain ⟨b, h5, h6⟩ := cutRow_rel h4
        refine ⟨_, fun k' hk' => h1 _ ?_, h6⟩
        simp only [hz]
        exact h3 _ (h5 _ hk')
    | arr b z o n cap =>
      simp only at h2
      cases hz : Nat.beq z ui.size with
      | false => rw [hz] at h2; exact h2.elim
      | true =>
        rw [hz] at h2
        obtain ⟨a, h3, h4⟩ := lowK_rel h2
        obtain ⟨u, v, h5, h6⟩ := cutA_rel h4
        refine ⟨_, fun k' hk' => h1 _ ?_, h6⟩
        simp only [hz]
        exact h3 _ (h5 _ hk')
    | _ => exact h2.elim
  | false =>
    rw [hs] at h
    simp only at h ⊢
    cases ht : t.str with
    | false => rw [ht] at h; exact h.elim
    | true =>
      rw [ht] at h
      cases x with
      | val v =>
        cases v with
        | string b =>
          simp only at h ⊢
          obtain ⟨a, h3, h4⟩ := lowK_rel h
          obtain ⟨b, h5, h6⟩ := cutStr_rel h4
          exact ⟨_, fun k' hk' => h3 _ (h5 _ hk'), h6⟩
        | _ => exact h.elim
      | _ => exact h.elim
theorem sliceK_rel {E : Env} {ρ : Operand → SV} {t : Nat} {x : Operand} {lo hi mx : Option Operand} {k : SV → Prop} (h : sliceK E ρ t x lo hi mx k) : ∃ v, (∀ k' : SV → Prop, k' v → sliceK E ρ t x lo hi mx k') ∧ k v := by
  cases mx with
  | some m =>
    obtain ⟨ti, h1, h2⟩ := tiK_rel h
    cases hs : ti.slice with
    | false => rw [hs] at h2; exact h2.elim
    | true =>
    rw [hs] at h2
    obtain ⟨ui, h3, h4⟩ := tiK_rel h2
    cases hz1 : isZ (some (ρ m)) with
    | false => rw [hz1] at h4; exact h4.elim
    | true =>
    rw [hz1] at h4
    simp only at h4
    cases hi with
    | none => exact h4.elim
    | some hh =>
    simp only at h4
    cases hz2 : isZ (some (ρ hh)) with
    | false => rw [hz2] at h4; exact h4.elim
    | true =>
    rw [hz2] at h4
    simp only at h4
    cases hz3 : isZ (lo.map ρ) with
    | false => rw [hz3] at h4; exact h4.elim
    | true =>
    rw [hz3] at h4
    simp only at h4
    cases hz4 : anyRow (ρ x) with
    | false => rw [hz4] at h4; exact h4.elim
    | true =>
    rw [hz4] at h4
    refine ⟨_, fun k' hk' => h1 _ ?_, h4⟩
    rw [hs]
    refine h3 _ ?_
    simp only [hz1, hz2, hz3, hz4]
    exact hk'
  | none =>
    obtain ⟨ti, h1, h2⟩ := tiK_rel h
    obtain ⟨v, h3, h4⟩ := cutK_rel h2
    exact ⟨v, fun k' hk' => h1 _ (h3 _ hk'), h4⟩
theorem makeFuncK_rel {ρ : Operand → SV} {f : Fn} {fs cs : List Operand} {k : SV → Prop} (h : makeFuncK ρ f fs cs k) : ∃ v, (∀ k' : SV → Prop, k' v → makeFuncK ρ f fs cs k') ∧ k v := by
  cases f with
  | func g =>
    cases fs with
    | nil => simp only [makeFuncK, forceL_eq] at h ⊢; exact ⟨_, fun _ h => h, h⟩
    | cons _ _ => exact h.elim
  | _ => exact h.elim

theorem stepB_rel {E : Env} {d : Nat} {op : Op} {ρ : Operand → SV} {bx : Tr (Option (List SV))} {k : SV → Tr (Option (List SV)) → Prop} (h : stepB E d op ρ bx k) :
    ∃ v b, (∀ k' : SV → Tr (Option (List SV)) → Prop, k' v b → stepB E d op ρ bx k') ∧ k v b := by
  cases op with
  | move x => simp only [stepB, force_eq] at h ⊢; exact ⟨_, _, fun _ h => h, h⟩
  | assign x => simp only [stepB, force_eq] at h ⊢; exact ⟨_, _, fun _ h => h, h⟩
  | pick c x y =>
    simp only [stepB, force_eq] at h ⊢
    cases hc : ρ c <;> rw [hc] at h <;> first | exact h.elim | exact ⟨_, _, fun _ h => h, h⟩
  | alloc t =>
    simp only [stepB] at h ⊢
    cases hdm : Nat.blt d 1000 with
    | false => rw [hdm] at h; exact h.elim
    | true =>
    rw [hdm] at h
    simp only at h ⊢
    cases hb : bx.get d (some []) with
    | some _ => rw [hb] at h; exact h.elim
    | none =>
      rw [hb] at h
      obtain ⟨ti, h1, h2⟩ := tiK_rel h
      cases hz : ti.zero with
      | nil => rw [hz] at h2; exact h2.elim
      | cons z zs =>
        rw [hz] at h2
        simp only [forceL_eq, Tr.putK_eq] at h2 h1 ⊢
        refine ⟨_, _, fun k' hk' => h1 _ ?_, h2⟩
        rw [hz]; exact hk'
  | box t x =>
    simp only [stepB] at h ⊢
    cases hdm : Nat.blt d 1000 with
    | false => rw [hdm] at h; exact h.elim
    | true =>
    rw [hdm] at h
    simp only at h ⊢
    cases hb : bx.get d (some []) with
    | some _ => rw [hb] at h; exact h.elim
    | none =>
      rw [hb] at h
      obtain ⟨l, h1, h2⟩ := cellsK_rel h
      cases hpl : plain l with
      | false => rw [hpl] at h2; exact h2.elim
      | true =>
      rw [hpl] at h2
      simp only [Tr.putK_eq] at h2 h1 ⊢
      exact ⟨_, _, fun k' hk' => h1 _ (by rw [hpl]; exact hk'), h2⟩
  | load t x =>
    simp only [stepB] at h ⊢
    cases hq : qLoad E.bs x with
    | false =>
      rw [hq] at h
      cases hq2 : sLoad E.bs x with
      | false =>
        rw [hq2] at h
        obtain ⟨ti, h1, h2⟩ := tiK_rel h
        obtain ⟨v, h3, h4⟩ := loadK_rel h2
        exact ⟨v, bx, fun k' hk' => h1 _ (h3 _ hk'), h4⟩
      | true =>
        rw [hq2] at h
        simp only at h ⊢
        cases hb : isSB E.bs (ρ x) with
        | false => rw [hb] at h; exact h.elim
        | true =>
          rw [hb] at h
          obtain ⟨ti, h1, h2⟩ := tiK_rel h
          obtain ⟨v, h3, h4⟩ := loadK_rel h2
          exact ⟨v, bx, fun k' hk' => h1 _ (h3 _ hk'), h4⟩
    | true =>
      rw [hq] at h
      simp only at h ⊢
      cases hb : isQB E.bs (ρ x) with
      | false => rw [hb] at h; exact h.elim
      | true =>
        rw [hb] at h
        obtain ⟨ti, h1, h2⟩ := tiK_rel h
        obtain ⟨v, h3, h4⟩ := loadK_rel h2
        exact ⟨v, bx, fun k' hk' => h1 _ (h3 _ hk'), h4⟩
  | nilCheck x =>
    simp only [stepB] at h ⊢
    cases hx : ρ x <;> rw [hx] at h <;> first | exact h.elim | exact ⟨_, _, fun _ h => h, h⟩
  | store t x y =>
    simp only [stepB] at h ⊢
    cases hq : sStore E.bs x with
    | false =>
      rw [hq] at h
      obtain ⟨ti, h1, h2⟩ := tiK_rel h
      obtain ⟨v, h3, h4⟩ := storeK_rel h2
      exact ⟨_, v, fun k' hk' => h1 _ (h3 _ hk'), h4⟩
    | true =>
      rw [hq] at h
      simp only at h ⊢
      cases hb : offSB E.bs (ρ x) with
      | false => rw [hb] at h; exact h.elim
      | true =>
        rw [hb] at h
        obtain ⟨ti, h1, h2⟩ := tiK_rel h
        obtain ⟨v, h3, h4⟩ := storeK_rel h2
        exact ⟨_, v, fun k' hk' => h1 _ (h3 _ hk'), h4⟩
  | fieldAddr t x f =>
    simp only [stepB] at h ⊢
    cases hx : ρ x with
    | box b o =>
      rw [hx] at h
      obtain ⟨ti, h1, h2⟩ := tiK_rel h
      obtain ⟨q, u, h3, h4⟩ := fldK_rel h2
      exact ⟨_, _, fun k' hk' => h1 _ (h3 _ hk'), h4⟩
    | elt X z cs dd l i o =>
      rw [hx] at h
      obtain ⟨ti, h1, h2⟩ := tiK_rel h
      obtain ⟨q, u, h3, h4⟩ := fldK_rel h2
      exact ⟨_, _, fun k' hk' => h1 _ (h3 _ hk'), h4⟩
    | plc b z i o =>
      rw [hx] at h
      obtain ⟨ti, h1, h2⟩ := tiK_rel h
      obtain ⟨q, u, h3, h4⟩ := fldK_rel h2
      exact ⟨_, _, fun k' hk' => h1 _ (h3 _ hk'), h4⟩
    | _ => rw [hx] at h; exact h.elim
  | field t x f =>
    simp only [stepB] at h ⊢
    cases hx : ρ x with
    | agg l =>
      rw [hx] at h
      obtain ⟨ti, h1, h2⟩ := tiK_rel h
      obtain ⟨q, u, h3, h4⟩ := fldK_rel h2
      obtain ⟨ui, h5, h6⟩ := tiK_rel h4
      cases hl : Nat.ble (q + ui.size) l.length with
      | false => rw [hl] at h6; exact h6.elim
      | true =>
        rw [hl] at h6
        simp only [wholeK_eq] at h6 h1 h3 h5 ⊢
        refine ⟨_, _, fun k' hk' => h1 _ (h3 _ (h5 _ ?_)), h6⟩
        rw [hl]; exact hk'
    | _ => rw [hx] at h; exact h.elim
  | indexAddr t x i =>
    simp only [stepB] at h ⊢
    cases hi : ρ i with
    | val v =>
      rw [hi] at h
      cases v with
      | int kk n =>
        simp only at h ⊢
        cases hx : ρ x with
        | row X z cs dd l =>
          rw [hx] at h
          obtain ⟨ti, h1, h2⟩ := tiK_rel h
          obtain ⟨ui, h3, h4⟩ := tiK_rel h2
          cases hz : Nat.beq z ui.size with
          | false => rw [hz] at h4; exact h4.elim
          | true =>
            rw [hz] at h4
            simp only at h4
            cases hs : ti.slice with
            | false => rw [hs] at h4; exact h4.elim
            | true =>
              rw [hs] at h4
              refine ⟨_, _, fun k' hk' => h1 _ (h3 _ ?_), h4.2⟩
              rw [hz, hs]; exact ⟨h4.1, hk'⟩
        | own X z cs dd l id =>
          rw [hx] at h
          obtain ⟨ti, h1, h2⟩ := tiK_rel h
          obtain ⟨ui, h3, h4⟩ := tiK_rel h2
          cases hz : Nat.beq z ui.size with
          | false => rw [hz] at h4; exact h4.elim
          | true =>
            rw [hz] at h4
            simp only at h4
            cases hs : ti.slice with
            | false => rw [hs] at h4; exact h4.elim
            | true =>
              rw [hs] at h4
              refine ⟨_, _, fun k' hk' => h1 _ (h3 _ ?_), h4.2⟩
              rw [hz, hs]; exact ⟨h4.1, hk'⟩
        | arr b z o n cap =>
          rw [hx] at h
          obtain ⟨ti, h1, h2⟩ := tiK_rel h
          obtain ⟨ui, h3, h4⟩ := tiK_rel h2
          cases hz : Nat.beq z ui.size with
          | false => rw [hz] at h4; exact h4.elim
          | true =>
            rw [hz] at h4
            simp only at h4
            cases hs : ti.slice with
            | false => rw [hs] at h4; exact h4.elim
            | true =>
              rw [hs] at h4
              refine ⟨_, _, fun k' hk' => h1 _ (h3 _ ?_), h4.2⟩
              rw [hz, hs]; exact ⟨h4.1, hk'⟩
        | _ => rw [hx] at h; exact h.elim
      | _ => exact h.elim
    | _ => rw [hi] at h; exact h.elim
  | binOp op t x y u =>
    obtain ⟨v, h1, h2⟩ := binK_rel h
    exact ⟨v, bx, fun k' hk' => h1 _ hk', h2⟩
  | unOp op t x =>
    obtain ⟨v, h1, h2⟩ := unK_rel (op := op) (x := ρ x) (k := fun v => k v bx) h
    exact ⟨v, bx, fun k' hk' => (show unK op (ρ x) fun v => k' v bx from h1 _ hk'), h2⟩
  | extract x i =>
    simp only [stepB] at h ⊢
    cases hx : ρ x with
    | tup l =>
      rw [hx] at h
      simp only at h ⊢
      cases hb : Nat.blt i l.length with
      | false => rw [hb] at h; exact h.elim
      | true => rw [hb] at h; simp only [force_eq] at h ⊢; exact ⟨_, _, fun _ h => h, h⟩
    | _ => rw [hx] at h; exact h.elim
  | makeSlice t x y =>
    obtain ⟨v, b, h1, h2⟩ := makeVecK_rel (show makeVecK E d t (ρ x) (ρ y) bx k from h)
    exact ⟨v, b, fun k' hk' => (show makeVecK E d t (ρ x) (ρ y) bx k' from h1 _ hk'), h2⟩
  | call c =>
    simp only [stepB] at h ⊢
    cases hcl : isClear c.callee with
    | true =>
      rw [hcl] at h
      simp only at h ⊢
      generalize c.args.toList.map ρ = l at h ⊢
      match l, h with
      | [x], h =>
        simp only [force_eq] at h ⊢
        obtain ⟨b, h1, h2⟩ := clearK_rel h
        exact ⟨_, b, fun k' hk' => h1 _ hk', h2⟩
    | false =>
    rw [hcl] at h
    simp only at h ⊢
    cases hb : bcall E.bs c.callee with
    | none =>
      rw [hb] at h
      obtain ⟨v, h1, h2⟩ := callK_rel h
      exact ⟨v, bx, fun k' hk' => h1 _ hk', h2⟩
    | some g =>
      rw [hb] at h
      simp only at h ⊢
      cases hg : E.ctrB g with
      | none => rw [hg] at h; exact h.elim
      | some cb =>
        rw [hg] at h
        simp only [forceL_eq] at h ⊢
        obtain ⟨_, _, _, -, -, -, -, -, h1, h2⟩ := enterB_rel h
        exact ⟨_, _, h2, h1⟩
  | build t parts =>
    obtain ⟨v, h1, h2⟩ := buildK_rel (show buildK E ρ t parts.toList (fun v => k v bx) from h)
    exact ⟨v, bx, fun k' hk' => (show buildK E ρ t parts.toList (fun v => k' v bx) from h1 _ hk'), h2⟩
  | buildSlice t len parts =>
    simp only [stepB] at h ⊢
    cases hv : vecD E.bs d with
    | true =>
      rw [hv] at h
      exact buildVecK_rel h
    | false =>
    rw [hv] at h
    obtain ⟨v, h1, h2⟩ := buildSliceK_rel (show buildSliceK E d ρ t len parts.toList (fun v => k v bx) from h)
    exact ⟨v, bx, fun k' hk' => (show buildSliceK E d ρ t len parts.toList (fun v => k' v bx) from h1 _ hk'), h2⟩
  | slice t x lo hi mx =>
    obtain ⟨v, h1, h2⟩ := sliceK_rel (show sliceK E ρ t x lo hi mx (fun v => k v bx) from h)
    exact ⟨v, bx, fun k' hk' => (show sliceK E ρ t x lo hi mx (fun v => k' v bx) from h1 _ hk'), h2⟩
  | makeFunc f fs cs =>
    obtain ⟨v, h1, h2⟩ := makeFuncK_rel (show makeFuncK ρ f fs.toList cs.toList (fun v => k v bx) from h)
    exact ⟨v, bx, fun k' hk' => (show makeFuncK ρ f fs.toList cs.toList (fun v => k' v bx) from h1 _ hk'), h2⟩
  | convert s t x =>
    obtain ⟨v, h1, h2⟩ := convK_rel (show convK E s t (ρ x) (fun v => k v bx) from h)
    exact ⟨v, bx, fun k' hk' => (show convK E s t (ρ x) (fun v => k' v bx) from h1 _ hk'), h2⟩
  | index t x i =>
    obtain ⟨v, h1, h2⟩ := indexK_rel (show indexK E t (ρ x) (ρ i) (fun v => k v bx) from h)
    exact ⟨v, bx, fun k' hk' => (show indexK E t (ρ x) (ρ i) (fun v => k' v bx) from h1 _ hk'), h2⟩
  | _ => exact h.elim

/-! ### 2. The operations of a region as a row of steps -/
def lit : Bool → SV
  | true => .tt
  | false => .ff
/-- at a guard's temporary: it is known to be b -/
def Ref (s : ASt) (g : Nat) (b : Bool) (s0 : ASt) : Prop :=
  (s.fr.get g .junk = lit b ∨ s.fr.get g .junk = .val (.bool b)) ∧ s0 = ⟨s.fr.put g (lit b), s.bx⟩
def StepR (E : Env) (o : Oper) (s : ASt) (s' : ASt) : Prop :=
  (isApp o.op = none ∧ isFrz E.bs o = none ∧ ∃ v b, (∀ k' : SV → Tr (Option (List SV)) → Prop, k' v b → stepB E (dOf o.dst) o.op (ev s) s.bx k') ∧ s' = ⟨setD o.dst v s.fr, b⟩) ∨
  (∃ x y t d, isApp o.op = some (x, y, t) ∧ o.dst = some d ∧ ∀ K : ASt → Prop, K s' → appK E d t (ev s x) (ev s y) s K) ∨
  (hasVec E.bs = true ∧ (isApp o.op ≠ none ∨ isFrz E.bs o ≠ none) ∧ ∀ K : ASt → Prop, K s' → opK E o s K)
theorem memN_hasVec : ∀ {bs : List Nat} {d : Nat}, memN bs (Nat.add 1000000 d) = true → hasVec bs = true
  | x :: r, d, h => by
    unfold memN at h
    unfold hasVec
    cases e : Nat.beq x (Nat.add 1000000 d) with
    | true =>
      have := Nat.eq_of_beq_eq_true e
      have h2 : Nat.ble 1000000 x = true := by
        rw [this, Nat.ble_eq]; exact Nat.le_add_right _ _
      rw [h2]
    | false =>
      rw [e] at h
      cases Nat.ble 1000000 x with
      | true => rfl
      | false => exact memN_hasVec h
theorem isFrz_hasVec {bs : List Nat} {o : Oper} {c : Call} (h : isFrz bs o = some c) : hasVec bs = true := by
  unfold isFrz at h
  cases hd : o.dst with
  | none => rw [hd] at h; cases h
  | some d =>
    rw [hd] at h
    simp only at h
    cases hv : vecD bs d with
    | false => rw [hv] at h; cases h
    | true => exact memN_hasVec hv
theorem frzK_rel {E : Env} {d : Nat} {c : Call} {s : ASt} {K : ASt → Prop} (h : frzK E d c s K) : ∃ s', (∀ K' : ASt → Prop, K' s' → frzK E d c s K') ∧ K s' := by
  unfold frzK at h ⊢
  cases hc : c.callee with
  | value f =>
    rw [hc] at h
    simp only at h ⊢
    cases hcf : ev s f with
    | fn g caps =>
      rw [hcf] at h
      simp only at h ⊢
      cases hct : E.ctr g with
      | none =>
        rw [hct] at h
        simp only at h ⊢
        cases caps with
        | cons _ _ => exact h.elim
        | nil =>
          simp only at h ⊢
          cases hcb : E.ctrB g with
          | none => rw [hcb] at h; exact h.elim
          | some cb =>
            rw [hcb] at h
            simp only [forceL_eq] at h ⊢
            obtain ⟨σ, x, bx', -, -, -, -, -, h1, h2⟩ := ownK_rel h
            exact ⟨_, h2, h1⟩
      | some ct =>
        rw [hct] at h
        simp only [forceL_eq] at h ⊢
        simp only [condsK_arrLs, condsK_arrLT, condsK] at h ⊢
        obtain ⟨tb, harr, ht, hback⟩ := gatherK_rel (fun _ _ h => h) 6 _ [] _ (fun _ _ e => by cases e) h
        obtain ⟨ha1, harr2⟩ := arrCs_elim _ harr
        obtain ⟨ha2, x, hs, hi, hdom, hk⟩ := arrT_elim tb harr2
        rw [force_eq] at hk
        cases hlt : allLt (keysT tb) with
        | false => rw [hlt] at hk; exact hk.elim
        | true =>
          rw [hlt] at hk
          simp only [killTK_eq, killBK_eq, Tr.putK_eq] at hk
          refine ⟨_, fun K' hK' => hback _ (arrCs_mono _ harr fun h => arrT_mono tb h fun _ => ⟨x, hs, hi, hdom, ?_⟩), hk⟩
          rw [force_eq, hlt]
          simp only [killTK_eq, killBK_eq, Tr.putK_eq]
          exact hK'
    | _ => rw [hcf] at h; exact h.elim
  | _ => rw [hc] at h; exact h.elim
theorem appV_rel {E : Env} {d : Nat} {t : Nat × Nat} {x y : SV} {s : ASt} {K : ASt → Prop} (h : appV E d t x y s K) : ∃ s', (∀ K' : ASt → Prop, K' s' → appV E d t x y s K') ∧ K s' := by
  unfold appV at h ⊢
  cases htu : Nat.beq t.1 t.2 with
  | false => rw [htu] at h; exact h.elim
  | true =>
  simp only [htu] at h ⊢
  obtain ⟨ti, h1, h2⟩ := tiK_rel h
  cases hs : ti.slice with
  | false => rw [hs] at h2; exact h2.elim
  | true =>
    rw [hs] at h2
    obtain ⟨ui, h3, h4⟩ := tiK_rel h2
    cases hb : Nat.beq ui.zero.length ui.size with
    | false => rw [hb] at h4; exact h4.elim
    | true =>
      rw [hb] at h4
      simp only at h4
      cases hp : Nat.ble 1 ui.size with
      | false => rw [hp] at h4; exact h4.elim
      | true =>
        rw [hp] at h4
        simp only at h4
        cases hm : Nat.ble 1 ui.bytes with
        | false => rw [hm] at h4; exact h4.elim
        | true =>
          rw [hm] at h4
          simp only at h4
          cases hd : Nat.blt d 1000 with
          | false => rw [hd] at h4; exact h4.elim
          | true =>
          rw [hd] at h4
          simp only at h4
          cases hg : s.bx.get d (some []) with
          | some _ => rw [hg] at h4; exact h4.elim
          | none =>
          rw [hg] at h4
          simp only [Tr.putK_eq] at h4
          obtain ⟨X, cs, e, ys, g1, g2, g3, g4⟩ := h4
          refine ⟨_, fun k' hk' => h1 _ ?_, g4⟩
          rw [hs]
          refine h3 _ ?_
          simp only [hb, hp, hm, hd, hg, Tr.putK_eq]
          exact ⟨X, cs, e, ys, g1, g2, g3, hk'⟩
theorem appX_rel {E : Env} {d : Nat} {t : Nat × Nat} {b z o n : Nat} {c : Option Nat} {y : SV} {s : ASt} {K : ASt → Prop} (h : appX E d t b z o n c y s K) : ∃ s', (∀ K' : ASt → Prop, K' s' → appX E d t b z o n c y s K') ∧ K s' := by
  unfold appX at h ⊢
  cases htu : Nat.beq t.1 t.2 with
  | false => rw [htu] at h; exact h.elim
  | true =>
  simp only [htu] at h ⊢
  obtain ⟨ti, h1, h2⟩ := tiK_rel h
  cases hs : ti.slice with
  | false => rw [hs] at h2; exact h2.elim
  | true =>
    rw [hs] at h2
    obtain ⟨ui, h3, h4⟩ := tiK_rel h2
    cases hb : Nat.beq ui.zero.length ui.size with
    | false => rw [hb] at h4; exact h4.elim
    | true =>
      rw [hb] at h4
      simp only at h4
      cases hp : Nat.ble 1 ui.size with
      | false => rw [hp] at h4; exact h4.elim
      | true =>
        rw [hp] at h4
        simp only at h4
        cases hm : Nat.ble 1 ui.bytes with
        | false => rw [hm] at h4; exact h4.elim
        | true =>
          rw [hm] at h4
          simp only at h4
          cases hz : Nat.beq z ui.size with
          | false => rw [hz] at h4; exact h4.elim
          | true =>
          rw [hz] at h4
          simp only at h4
          cases hg : s.bx.get b none with
          | none => rw [hg] at h4; exact h4.elim
          | some cs =>
          rw [hg] at h4
          simp only at h4
          obtain ⟨T, sz, cc, e, l, m1, m2⟩ := manyK_rel h4
          cases hz2 : Nat.beq z sz with
          | false => rw [hz2] at m2; exact m2.elim
          | true =>
          rw [hz2] at m2
          simp only [Tr.putK_eq] at m2
          obtain ⟨ys, g1, g3, g4⟩ := m2
          refine ⟨_, fun k' hk' => h1 _ ?_, g4⟩
          rw [hs]
          refine h3 _ ?_
          simp only [hb, hp, hm, hz, hg]
          refine m1 _ ?_
          simp only [hz2, Tr.putK_eq]
          exact ⟨ys, g1, g3, hk'⟩
/-- what an append comes to, in any state -/
theorem appK_inv {E : Env} {d : Nat} {t : Nat × Nat} {x y : SV} {s : ASt} {K : ASt → Prop} (h : appK E d t x y s K) :
    ∃ (id : Nat) (o : SV), K ⟨(dgrT id d s.fr).put d o, dgrB id d s.bx⟩ ∧ ∀ (s' : ASt) (K' : ASt → Prop), K' ⟨(dgrT id d s'.fr).put d o, dgrB id d s'.bx⟩ → appK E d t x y s' K' := by
  unfold appK at h ⊢
  simp only [force_eq] at h ⊢
  obtain ⟨ti, h1, h2⟩ := tiK_rel h
  cases hs : ti.slice with
  | false => rw [hs] at h2; exact h2.elim
  | true =>
    rw [hs] at h2
    obtain ⟨ui, h3, h4⟩ := tiK_rel h2
    cases hb : Nat.beq ui.zero.length ui.size with
    | false => rw [hb] at h4; exact h4.elim
    | true =>
      rw [hb] at h4
      simp only at h4
      cases hp : Nat.ble 1 ui.size with
      | false => rw [hp] at h4; exact h4.elim
      | true =>
        rw [hp] at h4
        simp only at h4
        cases hm : Nat.ble 1 ui.bytes with
        | false => rw [hm] at h4; exact h4.elim
        | true =>
          rw [hm] at h4
          simp only [Tr.putK_eq] at h4
          obtain ⟨X, cs, e, l, ys, id, g1, g2, g3, g4⟩ := h4
          refine ⟨id, _, g4, fun s' k' hk' => h1 _ ?_⟩
          rw [hs]
          refine h3 _ ?_
          simp only [hb, hp, hm, Tr.putK_eq]
          exact ⟨X, cs, e, l, ys, id, g1, g2, g3, hk'⟩
theorem appK_rel {E : Env} {d : Nat} {t : Nat × Nat} {x y : SV} {s : ASt} {K : ASt → Prop} (h : appK E d t x y s K) : ∃ s', (∀ K' : ASt → Prop, K' s' → appK E d t x y s K') ∧ K s' := by
  unfold appK at h ⊢
  simp only [force_eq] at h ⊢
  obtain ⟨ti, h1, h2⟩ := tiK_rel h
  cases hs : ti.slice with
  | false => rw [hs] at h2; exact h2.elim
  | true =>
    rw [hs] at h2
    obtain ⟨ui, h3, h4⟩ := tiK_rel h2
    cases hb : Nat.beq ui.zero.length ui.size with
    | false => rw [hb] at h4; exact h4.elim
    | true =>
      rw [hb] at h4
      simp only at h4
      cases hp : Nat.ble 1 ui.size with
      | false => rw [hp] at h4; exact h4.elim
      | true =>
        rw [hp] at h4
        simp only at h4
        cases hm : Nat.ble 1 ui.bytes with
        | false => rw [hm] at h4; exact h4.elim
        | true =>
          rw [hm] at h4
          simp only [Tr.putK_eq] at h4
          obtain ⟨X, cs, e, l, ys, id, g1, g2, g3, g4⟩ := h4
          refine ⟨_, fun k' hk' => h1 _ ?_, g4⟩
          rw [hs]
          refine h3 _ ?_
          simp only [hb, hp, hm, Tr.putK_eq]
          exact ⟨X, cs, e, l, ys, id, g1, g2, g3, hk'⟩
inductive Step1 (E : Env) (all : List Oper) (o : Oper) (s : ASt) : ASt → Prop
  | plain (s') (hg : o.guard = none) (h : StepR E o s s') : Step1 E all o s s'
  | run (s' s0 j b g) (hg : o.guard = some (j, b)) (hj : gOf all j = some g) (hr : Ref s g b s0) (h : StepR E o s0 s') : Step1 E all o s s'
  | skip (s0 j b g) (hg : o.guard = some (j, b)) (hj : gOf all j = some g) (hr : Ref s g (!b) s0) : Step1 E all o s ⟨setD o.dst (.val undef) s0.fr, s0.bx⟩
  | void (j b g x) (hg : o.guard = some (j, b)) (hj : gOf all j = some g) (hr : s.fr.get g .junk = .val (.tuple x)) : Step1 E all o s ⟨setD o.dst (.val undef) s.fr, s.bx⟩
inductive Run (E : Env) (all : List Oper) : List Oper → ASt → ASt → Prop
  | nil (s) : Run E all [] s s
  | cons (o os s s' t) (h : Step1 E all o s s') (r : Run E all os s' t) : Run E all (o :: os) s t

theorem put_known {l : Tr SV} {g : Nat} {x : SV} (h : l.get g .junk = x) : l.put g x = l := by
  refine Tr.ext SV.junk (Tr.like_put _ _ _) fun j hj => ?_
  rw [Tr.get_put]
  by_cases e : g = j
  · subst e
    by_cases hh : l.has g = true
    · rw [if_pos ⟨rfl, hh⟩]; exact h.symm
    · rw [if_neg (fun c => hh c.2)]
  · rw [if_neg (fun c => e c.1)]

theorem axOps_rel {E : Env} {all : List Oper} : ∀ {os : List Oper} {s : ASt} {K : ASt → Prop}, axOps E all os s K → ∃ t, Run E all os s t ∧ K t
  | [], s, K, h => ⟨s, .nil s, by unfold axOps at h; rwa [norm_eq] at h⟩
  | o :: os, s, K, h => by
    unfold axOps at h
    rw [norm_eq] at h
    have go : ∀ (s0 : ASt), (opK E o s0 fun s => axOps E all os s K) →
        ∃ s', StepR E o s0 s' ∧ axOps E all os s' K := by
      intro s0 h
      have h0 := h
      unfold opK at h
      cases ha : isApp o.op with
      | none =>
        rw [ha] at h
        simp only at h
        cases hfz : isFrz E.bs o with
        | some c =>
          rw [hfz] at h
          simp only at h
          cases hd : o.dst with
          | none => rw [hd] at h; exact h.elim
          | some d =>
            rw [hd] at h
            obtain ⟨s', h1, h2⟩ := frzK_rel h
            refine ⟨s', .inr (.inr ⟨isFrz_hasVec hfz, .inr (by rw [hfz]; simp), fun K hK => ?_⟩), h2⟩
            unfold opK
            rw [ha, hfz, hd]
            exact h1 _ hK
        | none =>
        rw [hfz] at h
        obtain ⟨v, b, h1, h2⟩ := stepB_rel h
        rw [setK_eq] at h2
        exact ⟨⟨setD o.dst v s0.fr, b⟩, .inl ⟨ha, hfz, v, b, h1, rfl⟩, h2⟩
      | some xyt =>
        obtain ⟨x, y, t⟩ := xyt
        rw [ha] at h
        simp only at h
        cases hd : o.dst with
        | none => rw [hd] at h; exact h.elim
        | some d =>
          rw [hd] at h
          simp only [force_eq] at h
          cases hv : vecD E.bs d with
          | true =>
            rw [hv] at h
            obtain ⟨s', h1, h2⟩ := appV_rel h
            refine ⟨s', .inr (.inr ⟨memN_hasVec hv, .inl (by rw [ha]; simp), fun K hK => ?_⟩), h2⟩
            unfold opK
            rw [ha, hd]
            simp only [force_eq]
            rw [hv]
            exact h1 _ hK
          | false =>
          rw [hv] at h
          simp only at h
          have reg : (∀ b z q n c, ev s0 x ≠ .arr b z q n c) → appK E d t (ev s0 x) (ev s0 y) s0 (fun s => axOps E all os s K) → ∃ s', StepR E o s0 s' ∧ axOps E all os s' K := by
            intro _ h
            obtain ⟨s', h1, h2⟩ := appK_rel h
            exact ⟨s', .inr (.inl ⟨x, y, t, d, ha, hd, h1⟩), h2⟩
          cases hx : ev s0 x with
          | arr b z q n c =>
            rw [hx] at h
            simp only at h
            cases hvv : hasVec E.bs with
            | false => rw [hvv] at h; exact h.elim
            | true =>
              rw [hvv] at h
              obtain ⟨s', h1, h2⟩ := appX_rel h
              refine ⟨s', .inr (.inr ⟨hvv, .inl (by rw [ha]; simp), fun K hK => ?_⟩), h2⟩
              unfold opK
              rw [ha, hd]
              simp only [force_eq]
              rw [hv, hx]
              simp only
              rw [hvv]
              exact h1 _ hK
          | _ => rw [hx] at h; exact reg (by rw [hx]; intros; simp) (by rw [hx]; exact h)
    cases hg : o.guard with
    | none =>
      rw [hg] at h
      obtain ⟨s', h1, h2⟩ := go s h
      obtain ⟨t, h3, h4⟩ := axOps_rel h2
      exact ⟨t, .cons _ _ _ s' _ (.plain _ hg h1) h3, h4⟩
    | some jb =>
      obtain ⟨j, b⟩ := jb
      rw [hg] at h
      simp only at h
      cases hj : gOf all j with
      | none => rw [hj] at h; exact h.elim
      | some g =>
        rw [hj] at h
        simp only at h
        generalize hx : s.fr.get g .junk = x at h
        have known : ∀ c : Bool, x = lit c → (match c == b with
            | true => opK E o s fun s => axOps E all os s K
            | false => setK o.dst (.val undef) s.fr fun fr => axOps E all os ⟨fr, s.bx⟩ K) → ∃ t, Run E all (o :: os) s t ∧ K t := by
          intro c hc h7
          have e : (⟨s.fr.put g (lit c), s.bx⟩ : ASt) = s := by rw [put_known (hx.trans hc)]
          cases hcb : c == b with
          | true =>
            rw [hcb] at h7
            have : c = b := by simpa using hcb
            subst this
            obtain ⟨s', h1, h2⟩ := go s h7
            obtain ⟨t, h3, h4⟩ := axOps_rel h2
            exact ⟨t, .cons _ _ _ s' _ (.run _ s j c g hg hj ⟨.inl (hx.trans hc), e.symm⟩ h1) h3, h4⟩
          | false =>
            rw [hcb] at h7
            have : c = !b := by cases c <;> cases b <;> simp_all
            rw [setK_eq] at h7
            obtain ⟨t, h3, h4⟩ := axOps_rel h7
            refine ⟨t, .cons _ _ _ _ _ (.skip s j b g hg hj ⟨.inl (by rw [← this]; exact hx.trans hc), ?_⟩) h3, h4⟩
            rw [← this]; exact e.symm
        have open' : ∀ c : Bool, x = .val (.bool c) → (match c == b with
            | true => opK E o ⟨s.fr.put g (lit c), s.bx⟩ fun s => axOps E all os s K
            | false => setK o.dst (.val undef) (s.fr.put g (lit c)) fun fr => axOps E all os ⟨fr, s.bx⟩ K) → ∃ t, Run E all (o :: os) s t ∧ K t := by
          intro c hc h7
          cases hcb : c == b with
          | true =>
            rw [hcb] at h7
            have : c = b := by simpa using hcb
            subst this
            obtain ⟨s', h1, h2⟩ := go _ h7
            obtain ⟨t, h3, h4⟩ := axOps_rel h2
            exact ⟨t, .cons _ _ _ s' _ (.run _ _ j c g hg hj ⟨.inr (hx.trans hc), rfl⟩ h1) h3, h4⟩
          | false =>
            rw [hcb] at h7
            have : c = !b := by cases c <;> cases b <;> simp_all
            rw [setK_eq] at h7
            obtain ⟨t, h3, h4⟩ := axOps_rel h7
            exact ⟨t, .cons _ _ _ _ _ (.skip ⟨s.fr.put g (lit c), s.bx⟩ j b g hg hj ⟨.inr (by rw [← this]; exact hx.trans hc), by rw [← this]⟩) h3, h4⟩
        cases x with
        | tt => exact known true rfl (by cases b <;> exact h)
        | ff => exact known false rfl (by cases b <;> exact h)
        | val v =>
          cases v with
          | bool c =>
            obtain ⟨ht, hf⟩ := h
            cases c with
            | true =>
              have h := ht rfl
              rw [Tr.putK_eq] at h
              exact open' true rfl (by cases b <;> exact h)
            | false =>
              have h := hf rfl
              rw [Tr.putK_eq] at h
              exact open' false rfl (by cases b <;> exact h)
          | tuple y =>
            simp only at h
            rw [setK_eq] at h
            obtain ⟨t, h3, h4⟩ := axOps_rel h
            exact ⟨t, .cons _ _ _ _ _ (.void j b g y hg hj hx) h3, h4⟩
          | _ => exact h.elim
        | _ => exact h.elim

/-! ### 3. A step in memory -/
section
variable {P : Program} {E : Env} {M : BM} {w0 : World} {H0 : HM} {a : Act} {w : World} {s s' : ASt} {ops : Array Oper} {Q : Exit → Act → World → Prop} [GlOk E H0 w0]

theorem StepR_sound (hE : EnvOk P E) {o : Oper} (h : StepR E o s s') (hr : Rel M w0 H0 s a w) {next : Act → World → Prop} (hn : ∀ a' w', Rel M w0 H0 s' a' w' → next a' w') : o.wp P a w next Q := by
  rcases h with ⟨-, -, v, b, h1, rfl⟩ | ⟨x, y, t, d, ha, hd, h1⟩ | ⟨-, -, h1⟩
  · obtain ⟨H, β, T, hf, hw⟩ := hr
    refine step_sound hE hf hw (k := fun v' s1 => v' = v ∧ s1 = ⟨s.fr, b⟩) ?_ (h1 _ ⟨rfl, rfl⟩)
    rintro v' s1 val H' β' T' w' ⟨rfl, rfl⟩ hf' hw' hg
    exact hn _ _ ⟨H', β', T', hf'.put' hg _, hw'⟩
  · exact app_sound hE hr ha hd (h1 (fun z => z = s') rfl) fun z a' w' e hr' => hn a' w' (e ▸ hr')
  · have hk := h1 (fun z => z = s') rfl
    have hn' : ∀ z a' w', z = s' → Rel M w0 H0 z a' w' → next a' w' := fun z a' w' e hr' => hn a' w' (e ▸ hr')
    unfold opK at hk
    cases ha : isApp o.op with
    | none =>
      rw [ha] at hk
      simp only at hk
      cases hfz : isFrz E.bs o with
      | some c =>
        rw [hfz] at hk
        simp only at hk
        cases hd : o.dst with
        | none => rw [hd] at hk; exact hk.elim
        | some d =>
          rw [hd] at hk
          exact frz_sound hE hr (isFrz_eq hfz) hd hk hn'
      | none =>
        rw [hfz] at hk
        obtain ⟨v, b, h2, h3⟩ := stepB_rel hk
        rw [setK_eq] at h3
        obtain ⟨H, β, T, hf, hw⟩ := hr
        refine step_sound hE hf hw (k := fun v' s1 => v' = v ∧ s1 = ⟨s.fr, b⟩) ?_ (h2 _ ⟨rfl, rfl⟩)
        rintro v' s1 val H' β' T' w' ⟨rfl, rfl⟩ hf' hw' hg
        exact hn' _ _ _ h3 ⟨H', β', T', hf'.put' hg _, hw'⟩
    | some xyt =>
      obtain ⟨x, y, t⟩ := xyt
      rw [ha] at hk
      simp only at hk
      cases hd : o.dst with
      | none => rw [hd] at hk; exact hk.elim
      | some d =>
        rw [hd] at hk
        simp only [force_eq] at hk
        cases hv : vecD E.bs d with
        | true => rw [hv] at hk; exact appV_sound hE hr ha hd hk hn'
        | false =>
          rw [hv] at hk
          simp only at hk
          cases hx : ev s x with
          | arr b z q n c =>
            rw [hx] at hk
            simp only at hk
            cases hvv : hasVec E.bs with
            | false => rw [hvv] at hk; exact hk.elim
            | true =>
              rw [hvv] at hk
              exact appX_sound hE hr ha hd hx hk hn'
          | _ => rw [hx] at hk; exact app_sound hE hr ha hd (by rw [hx]; exact hk) hn'
theorem lit_G {H : HM} {β : BM} {T : TM} {b : Bool} {v : Value} (h : G H β T (.val (.bool b)) v ∨ G H β T (lit b) v) : v = .bool b := by
  rcases h with h | h
  · exact gval h
  · cases b <;> (simp only [lit] at h; cases h; rfl)
theorem Ref_rel {g : Nat} {b : Bool} {s0 : ASt} (h : Ref s g b s0) (hr : Rel M w0 H0 s a w) : Rel M w0 H0 s0 a w ∧ g < a.tmps.size ∧ a.tmps.getD g undef = .bool b := by
  obtain ⟨H, β, T, hf, hw⟩ := hr
  obtain ⟨h1, rfl⟩ := h
  have hg : s.fr.has g = true := by
    cases hl : s.fr.has g with
    | true => rfl
    | false =>
      rw [Tr.get_out _ _ _ hl] at h1
      cases b <;> simp [lit] at h1
  have hv : a.tmps.getD g undef = .bool b := by
    have := hf.val g
    rcases h1 with h1 | h1 <;> rw [h1] at this
    · exact lit_G (.inr this)
    · exact lit_G (.inl this)
  refine ⟨⟨H, β, T, ⟨fun j hj => hf.size j (by rw [Tr.has_put] at hj; exact hj), hf.defers, fun j => ?_⟩, hw⟩, hf.size g hg, hv⟩
  show G H β T ((s.fr.put g (lit b)).get j .junk) _
  rw [Tr.get_put]
  by_cases e : g = j
  · subst e
    rw [if_pos ⟨rfl, hg⟩, hv]
    cases b
    · exact .ff
    · exact .tt
  · rw [if_neg (fun c => e c.1)]
    exact hf.val j
theorem at'_map_some (l : List Oper) (j : Nat) : at' (l.map some) j none = l[j]? := by
  by_cases h : j < l.length
  · rw [at'_get _ _ _ (by simpa using h)]; simp [h]
  · rw [at'_ge _ _ _ (by simp; omega)]; simp; omega
theorem gOf_eq {j g : Nat} (h : gOf ops.toList j = some g) : (ops[j]?).bind (·.dst) = some g := by
  unfold gOf at h
  rw [at'_map_some] at h
  rw [← Array.getElem?_toList]
  cases e : ops.toList[j]? with
  | none => rw [e] at h; cases h
  | some o => rw [e] at h; simpa using h
theorem yielded_eq {j g : Nat} (h : gOf ops.toList j = some g) (hg : g < a.tmps.size) : yielded ops a.tmps j = match a.tmps.getD g undef with | .bool b => some b | _ => none := by
  unfold yielded
  rw [gOf_eq h]
  have : a.tmps[g]? = some (a.tmps.getD g undef) := by simp [hg]
  simp only [Option.bind_some, this]
  cases a.tmps.getD g undef <;> rfl
theorem Step1_sound (hE : EnvOk P E) {i : Nat} {o : Oper} (hi : ops[i]? = some o) (h : Step1 E ops.toList o s s') (hr : Rel M w0 H0 s a w) {next : Act → World → Prop}
    (hn : ∀ a' w', Rel M w0 H0 s' a' w' → next a' w') : wpOp P ops Q i next a w := by
  unfold wpOp
  simp only [hi]
  cases h with
  | plain _ hg h =>
    rw [if_pos (by simp [Region.wanted, hg])]
    exact .inl (StepR_sound hE h hr hn)
  | run _ s0 j b g hg hj href h =>
    obtain ⟨hr0, h1, h2⟩ := Ref_rel href hr
    rw [if_pos (by simp only [Region.wanted, hg, yielded_eq hj h1, h2]; simp)]
    exact .inl (StepR_sound hE h hr0 hn)
  | skip s0 j b g hg hj href =>
    obtain ⟨hr0, h1, h2⟩ := Ref_rel href hr
    rw [if_neg (by simp only [Region.wanted, hg, yielded_eq hj h1, h2]; cases b <;> simp)]
    obtain ⟨H, β, T, hf, hw⟩ := hr0
    exact hn _ _ ⟨H, β, T, hf.put' .undef _, hw⟩
  | void j b g x hg hj href =>
    obtain ⟨H, β, T, hf, hw⟩ := hr
    have hgl : s.fr.has g = true := by
      cases hl : s.fr.has g with
      | true => rfl
      | false => rw [Tr.get_out _ _ _ hl] at href; cases href
    have hv := hf.val g
    rw [href] at hv
    have hv := gval hv
    rw [if_neg (by simp only [Region.wanted, hg, yielded_eq hj (hf.size g hgl), hv]; simp)]
    exact hn _ _ ⟨H, β, T, hf.put' .undef _, hw⟩

theorem Run_sound (hE : EnvOk P E) {t : ASt} (hq : ∀ a' w', Rel M w0 H0 t a' w' → Q .normal a' w') : ∀ (os : List Oper) (i : Nat) (s : ASt) (a : Act) (w : World),
    ops.toList.drop i = os → Run E ops.toList os s t → Rel M w0 H0 s a w → wpOps P ops Q (List.range' i os.length) a w
  | [], i, s, a, w, _, h, hr => by
    cases h
    exact hq _ _ hr
  | o :: os, i, s, a, w, hd, h, hr => by
    cases h with
    | cons _ _ _ s' _ h1 h2 =>
      have hi : ops[i]? = some o := by
        have : ops.toList[i]? = some o := by
          have := congrArg (fun l => l[0]?) hd
          simpa using this
        rwa [Array.getElem?_toList] at this
      have hd' : ops.toList.drop (i + 1) = os := by
        have := congrArg List.tail hd
        simpa using this
      rw [List.length_cons, List.range'_succ, wpOps_cons]
      exact Step1_sound hE hi h1 hr fun a' w' hr' => Run_sound hE hq os (i + 1) s' a' w' hd' h2 hr'

theorem region_sound (hE : EnvOk P E) (id : Nat) {K : ASt → Prop} (h : axOps E ops.toList ops.toList s K) (hr : Rel M w0 H0 s a w) (hq : ∀ s' a' w', K s' → Rel M w0 H0 s' a' w' → Q .normal a' w') :
    (Code.region id ops false).wp P Q a w := by
  obtain ⟨t, h1, h2⟩ := axOps_rel h
  refine wp_region ?_
  have := Run_sound (Q := Q) hE (fun a' w' hr' => hq t a' w' h2 hr') ops.toList 0 s a w (by simp) h1 hr
  rwa [Array.length_toList, ← List.range_eq_range'] at this
end
end Go.Proofs.YtimhbimpaiiceaaDoor.Ax
