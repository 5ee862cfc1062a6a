/- Layers parse and show: what is shown is read again, in plain Lean. -/
import Derived.Test.YtimhbimpaiiceaaDoorGb
import Derived.Test.YtimhbimpaiiceaaDoorLp
import Derived.Test.YtimhbimpaiiceaaDoorSg
set_option linter.unusedVariables false
set_option linter.unusedSimpArgs false
namespace Go.Proofs.YtimhbimpaiiceaaDoor.Ax
open Go Go.RowKit
/-! ### What show writes -/
def dig (n : Int) : ByteArray := itoaB n
def freshW (s : ByteArray) : Bool := freshF s.data.toList
def tyOk (t : Ty) : Bool := typedF t.1 t.2.data.toList
def insOk (x : Ins) : Bool := instrF x.op x.n x.a.data.toList x.b.data.toList
def catOk (c : Cat) : Bool := catchF c.name.data.toList c.fr c.up c.at'
def fldOk (f : Fld) : Bool := freshW f.name && tyOk f.type
def methOk (m : Meth) : Bool := !(m.abs && (decide (m.locals ≠ 0) || decide (m.code.length + m.catches.length > 0))) && (freshW m.name && ((decide (m.params.length ≤ 4) && m.params.all tyOk) && (tyOk m.ret && (inF m.locals 0 8 && ((decide (m.code.length ≤ 48) && m.code.all insOk) && (decide (m.catches.length ≤ 4) && m.catches.all catOk))))))
def clsOk (c : Cls) : Bool := freshW c.name && ((decide (c.super = noS) || (!c.iface && freshW c.super)) && ((decide (c.ifaces.length ≤ 4) && c.ifaces.all freshW) && ((decide (c.fields.length ≤ 6) && c.fields.all fldOk) && (decide (c.methods.length ≤ 6) && c.methods.all methOk))))
def prgOk (p : List Cls) : Bool := decide (p.length ≤ 10) && p.all clsOk
def kindW (t : Ty) : List ByteArray := kindF t.1 t.2
def listF (w : ByteArray) : List ByteArray → List ByteArray
  | [] => []
  | s :: r => [w, s] ++ r.flatMap fun x => [wComma, x]
def codeF (x : Ins) : List ByteArray := [wordF2 x.op] ++ ((if (numsF x.op).2.2 then [dig x.n] else []) ++ ((if x.a = noS then [] else [x.a]) ++ ((if x.b = noS then [] else [x.b]) ++ [wSemi])))
def paramsF : List Ty → List ByteArray
  | [] => []
  | t :: r => kindW t ++ r.flatMap fun x => wComma :: kindW x
def catF (c : Cat) : List ByteArray := [wCatch, c.name, dig c.fr, dig c.up, dig c.at', wSemi]
def doesF (m : Meth) : List ByteArray := [if m.static then wFunction else wMethod, m.name, wLp] ++ (paramsF m.params ++ ([wRp] ++ (kindW m.ret ++ (if m.abs then [wSemi] else [wLocals, dig m.locals, wLc] ++ (m.code.flatMap codeF ++ (m.catches.flatMap catF ++ [wRc]))))))
def fldF (f : Fld) : List ByteArray := [if f.static then wStatic else wField, f.name, wColon] ++ (kindW f.type ++ [wSemi])
def wordsC (c : Cls) : List ByteArray := [if c.iface then wInterface else wClass, c.name] ++ ((if c.super = noS then [] else [wExtends, c.super]) ++ (listF (if c.iface then wExtends else wImplements) c.ifaces ++ ([wLc] ++ (c.fields.flatMap fldF ++ (c.methods.flatMap doesF ++ [wRc])))))
def sepOf (w : ByteArray) : UInt8 := if w = wLc ∨ w = wRc ∨ w = wSemi then 10 else 32
def putW (w : ByteArray) : List UInt8 := w.data.toList ++ [sepOf w]
def textC (c : Cls) : List UInt8 := (wordsC c).flatMap putW
def textP (p : List Cls) : List UInt8 := p.flatMap textC
def showF (p : List Cls) : List UInt8 × Int := if prgOk p then (if 6000 < (textP p).length then ([], 2) else (textP p, 0)) else ([], 4)

/-! ### Words as tokens -/
abbrev T3 := Int × ByteArray × Int
def s3 (t : Tok) : T3 := (t.1, t.2.1, t.2.2.1)
def tokT (w : ByteArray) : T3 := s3 (tokenF w.data.toList).1
def tokB (w : ByteArray) : Bool := (tokenF w.data.toList).2
theorem ba_eta (s : ByteArray) : txt s.data.toList = s := rfl
theorem name_T {s : ByteArray} (h : nameF s.data.toList = true) : tokT s = (1, s, 0) ∧ tokB s = true := by
  unfold tokT tokB
  rw [tok_name h]
  exact ⟨rfl, rfl⟩
theorem sign_T {s : ByteArray} (h : s.data.toList.length = 1) (hs : isSign (s.data.toList.getD 0 0) = true) : tokT s = (3, s, 0) ∧ tokB s = true := by
  unfold tokT tokB
  rw [tok_sign h hs]
  exact ⟨rfl, rfl⟩
theorem num_T {n : Int} (h : inR n) : tokT (dig n) = (2, noS, n) ∧ tokB (dig n) = true := by
  unfold tokT tokB
  rw [show (dig n).data.toList = Lib.itoa n by simp [dig, itoaB], tok_num h]
  exact ⟨rfl, rfl⟩
theorem T_void : tokT wVoid = (1, wVoid, 0) ∧ tokB wVoid = true := name_T (by decide +kernel)
theorem T_int : tokT wInt = (1, wInt, 0) ∧ tokB wInt = true := name_T (by decide +kernel)
theorem T_locals : tokT wLocals = (1, wLocals, 0) ∧ tokB wLocals = true := name_T (by decide +kernel)
theorem T_catch : tokT wCatch = (1, wCatch, 0) ∧ tokB wCatch = true := name_T (by decide +kernel)
theorem T_field : tokT wField = (1, wField, 0) ∧ tokB wField = true := name_T (by decide +kernel)
theorem T_static : tokT wStatic = (1, wStatic, 0) ∧ tokB wStatic = true := name_T (by decide +kernel)
theorem T_method : tokT wMethod = (1, wMethod, 0) ∧ tokB wMethod = true := name_T (by decide +kernel)
theorem T_function : tokT wFunction = (1, wFunction, 0) ∧ tokB wFunction = true := name_T (by decide +kernel)
theorem T_class : tokT wClass = (1, wClass, 0) ∧ tokB wClass = true := name_T (by decide +kernel)
theorem T_interface : tokT wInterface = (1, wInterface, 0) ∧ tokB wInterface = true := name_T (by decide +kernel)
theorem T_extends : tokT wExtends = (1, wExtends, 0) ∧ tokB wExtends = true := name_T (by decide +kernel)
theorem T_implements : tokT wImplements = (1, wImplements, 0) ∧ tokB wImplements = true := name_T (by decide +kernel)
theorem T_lb : tokT wLb = (3, wLb, 0) ∧ tokB wLb = true := sign_T (by decide +kernel) (by decide +kernel)
theorem T_rb : tokT wRb = (3, wRb, 0) ∧ tokB wRb = true := sign_T (by decide +kernel) (by decide +kernel)
theorem T_lp : tokT wLp = (3, wLp, 0) ∧ tokB wLp = true := sign_T (by decide +kernel) (by decide +kernel)
theorem T_rp : tokT wRp = (3, wRp, 0) ∧ tokB wRp = true := sign_T (by decide +kernel) (by decide +kernel)
theorem T_lc : tokT wLc = (3, wLc, 0) ∧ tokB wLc = true := sign_T (by decide +kernel) (by decide +kernel)
theorem T_rc : tokT wRc = (3, wRc, 0) ∧ tokB wRc = true := sign_T (by decide +kernel) (by decide +kernel)
theorem T_comma : tokT wComma = (3, wComma, 0) ∧ tokB wComma = true := sign_T (by decide +kernel) (by decide +kernel)
theorem T_semi : tokT wSemi = (3, wSemi, 0) ∧ tokB wSemi = true := sign_T (by decide +kernel) (by decide +kernel)
theorem T_colon : tokT wColon = (3, wColon, 0) ∧ tokB wColon = true := sign_T (by decide +kernel) (by decide +kernel)
/-- a fresh name is none of the words that are kept, and no sign -/
theorem fresh_T {s : ByteArray} (h : freshW s = true) : tokT s = (1, s, 0) ∧ tokB s = true ∧ keptW s = false := by
  unfold freshW freshF at h
  rw [Bool.and_eq_true] at h
  exact ⟨(name_T h.1).1, (name_T h.1).2, by simpa [keptW] using h.2⟩
theorem fresh_ne {s w : ByteArray} (h : freshW s = true) (hw : keptW w = true ∨ nameF w.data.toList = false) : s ≠ w := by
  rintro rfl
  unfold freshW freshF at h
  rw [Bool.and_eq_true] at h
  rcases hw with hw | hw
  · have := h.2
    rw [show keptF s.data.toList = true from hw] at this; cases this
  · rw [hw] at h; cases h.1
theorem fresh_noS {s : ByteArray} (h : freshW s = true) : s ≠ noS := fresh_ne h (.inr (by decide +kernel))

/-! ### A reader ahead of words -/
structure At (r : Rs) (ts : List T3) : Prop where
  e : r.e = 0
  ts : (r.L.drop r.i).map s3 = ts
theorem at_cons {r : Rs} {t : T3} {ts : List T3} (h : At r (t :: ts)) : r.i < r.L.length ∧ s3 r.next = t ∧ At r.step ts := by
  have h1 := h.ts
  by_cases hlt : r.i < r.L.length
  · rw [List.drop_eq_getElem_cons hlt] at h1
    simp only [List.map_cons, List.cons.injEq] at h1
    refine ⟨hlt, ?_, ⟨h.e, h1.2⟩⟩
    rw [Rs.next_some ⟨h.e, hlt⟩, show r.L.getD r.i tok0 = r.L[r.i] by simp [List.getD, hlt]]
    exact h1.1
  · rw [List.drop_eq_nil_of_le (by omega)] at h1
    cases h1
theorem at_nil {r : Rs} (h : At r []) : r.next = tok0 := by
  refine Rs.next_none fun c => ?_
  have h1 := h.ts
  rw [List.drop_eq_getElem_cons c.2] at h1
  cases h1
theorem at_next {r : Rs} {k n : Int} {w : ByteArray} {ts : List T3} (h : At r ((k, w, n) :: ts)) : r.next.1 = k ∧ r.next.2.1 = w ∧ r.next.2.2.1 = n := by
  have := (at_cons h).2.1
  unfold s3 at this
  simp only [Prod.mk.injEq] at this
  exact this
theorem at_is {r : Rs} {k n : Int} {w : ByteArray} {ts : List T3} (h : At r ((k, w, n) :: ts)) (w' : ByteArray) : r.is w' = (decide (w = w') && decide (w' ≠ noS)) := by
  unfold Rs.is
  rw [(at_next h).2.1]
theorem at_yes {r : Rs} {k n : Int} {w : ByteArray} {ts : List T3} (h : At r ((k, w, n) :: ts)) (hw : w ≠ noS) : r.is w = true := by
  rw [at_is h]; simp [hw]
theorem at_no {r : Rs} {k n : Int} {w w' : ByteArray} {ts : List T3} (h : At r ((k, w, n) :: ts)) (hw : w ≠ w') : r.is w' = false := by
  rw [at_is h]; simp [hw]
theorem at_is0 {r : Rs} (h : At r []) (w : ByteArray) : r.is w = false := by
  unfold Rs.is
  rw [at_nil h]
  simp
  exact fun c => c.symm
theorem at_want {r : Rs} {k n : Int} {w : ByteArray} {ts : List T3} (h : At r ((k, w, n) :: ts)) (hw : w ≠ noS) : At (r.want w) ts := by
  unfold Rs.want
  rw [if_pos (at_yes h hw)]
  exact (at_cons h).2.2
theorem at_fresh {r : Rs} {s : ByteArray} {ts : List T3} (h : At r ((1, s, 0) :: ts)) (hk : keptW s = false) : r.free = true ∧ r.freshV = s ∧ At r.fresh ts := by
  have hf : r.free = true := by
    unfold Rs.free
    rw [(at_next h).1, (at_next h).2.1, hk]; rfl
  refine ⟨hf, ?_, ?_⟩
  · unfold Rs.freshV
    rw [if_pos hf, (at_next h).2.1]
  · unfold Rs.fresh
    rw [if_pos hf]
    exact (at_cons h).2.2
theorem at_num {r : Rs} {n lo hi : Int} {ts : List T3} (h : At r ((2, noS, n) :: ts)) (h1 : lo ≤ n) (h2 : n ≤ hi) : r.numV lo hi = n ∧ At (r.num lo hi) ts := by
  have hf : r.numOk lo hi = true := by
    unfold Rs.numOk
    rw [(at_next h).1, (at_next h).2.2]
    exact decide_eq_true ⟨rfl, h1, h2⟩
  refine ⟨?_, ?_⟩
  · unfold Rs.numV
    rw [if_pos hf, (at_next h).2.2]
  · unfold Rs.num
    rw [if_pos hf]
    exact (at_cons h).2.2
theorem room_lt (r : Rs) {a b : Int} (h : a < b) : r.room a b = r := by
  unfold Rs.room
  rw [if_neg (by omega)]
theorem at_len {r : Rs} {ts : List T3} (h : At r ts) : ts.length = r.L.length - r.i := by
  rw [← h.ts]; simp
/-- not this word next -/
def noW (ts : List T3) (w : ByteArray) : Prop := ∀ t, ts.head? = some t → t.2.1 ≠ w
theorem at_noW {r : Rs} {ts : List T3} {w : ByteArray} (h : At r ts) (hn : noW ts w) : r.is w = false := by
  cases ts with
  | nil => exact at_is0 h w
  | cons t ts =>
    obtain ⟨k, w', n⟩ := t
    exact at_no h (hn _ rfl)
theorem noW_cons {k n : Int} {w w' : ByteArray} {ts : List T3} (h : w ≠ w') : noW ((k, w, n) :: ts) w' := fun t e => by
  cases e; exact h

/-- a type's words -/
theorem at_kind {r : Rs} {t : Ty} {ts : List T3} (ht : tyOk t = true) (h : At r ((kindW t).map tokT ++ ts)) (hn : noW ts wLb) : r.kindV = t ∧ At r.kind ts := by
  obtain ⟨k, s⟩ := t
  unfold tyOk typedF at ht
  unfold kindW kindF at h
  have hv : ¬ (wInt = wVoid) := by decide
  simp only at ht h
  by_cases h1 : k = 1
  · rw [if_pos (.inl h1)] at ht
    rw [if_pos h1] at h
    have hs : s = noS := by
      have := of_decide_eq_true ht
      exact ByteArray.ext (Array.ext' this)
    subst h1 hs
    have h : At r ((1, wVoid, 0) :: ts) := by
      have := T_void.1
      unfold wVoid at this
      rw [List.map_cons, List.map_nil, this] at h
      exact h
    have hy : r.is wVoid = true := at_yes h (by decide)
    unfold Rs.kindV Rs.kind
    rw [if_pos hy, if_pos hy]
    exact ⟨rfl, (at_cons h).2.2⟩
  · rw [if_neg h1] at h
    by_cases h2 : k = 2
    · rw [if_pos (.inr (.inl h2))] at ht
      rw [if_pos h2] at h
      have hs : s = noS := ByteArray.ext (Array.ext' (of_decide_eq_true ht))
      subst h2 hs
      have h : At r ((1, wInt, 0) :: ts) := by
        have := T_int.1
        unfold wInt at this
        rw [List.map_cons, List.map_nil, this] at h
        exact h
      have hy : r.is wInt = true := at_yes h (by decide)
      have hx : r.is wVoid = false := at_no h (by decide)
      have hb := at_noW (at_cons h).2.2 hn
      unfold Rs.kindV Rs.kind Rs.rowR
      rw [if_neg (by rw [hx]; decide), if_pos hy, if_neg (by rw [hb]; decide), if_neg (by rw [hx]; decide), if_pos hy, if_neg (by rw [hb]; decide)]
      exact ⟨rfl, (at_cons h).2.2⟩
    · rw [if_neg h2] at h
      by_cases h4 : k = 4
      · rw [if_pos (.inr (.inr h4))] at ht
        rw [if_pos h4] at h
        have hs : s = noS := ByteArray.ext (Array.ext' (of_decide_eq_true ht))
        subst h4 hs
        have h : At r ((1, wInt, 0) :: (3, wLb, 0) :: (3, wRb, 0) :: ts) := by
          have a1 := T_int.1; have a2 := T_lb.1; have a3 := T_rb.1
          unfold wInt at a1; unfold wLb at a2; unfold wRb at a3
          rw [List.map_cons, List.map_cons, List.map_cons, List.map_nil, a1, a2, a3] at h
          exact h
        have hy : r.is wInt = true := at_yes h (by decide)
        have hx : r.is wVoid = false := at_no h (by decide)
        have hb : r.step.is wLb = true := at_yes (at_cons h).2.2 (by decide)
        unfold Rs.kindV Rs.kind Rs.rowR
        rw [if_neg (by rw [hx]; decide), if_pos hy, if_pos hb, if_neg (by rw [hx]; decide), if_pos hy, if_pos hb]
        exact ⟨rfl, at_want (at_cons (at_cons h).2.2).2.2 (by decide)⟩
      · rw [if_neg h4] at h
        rw [if_neg (by omega)] at ht
        have h35 : k = 3 ∨ k = 5 := by
          by_cases c : k = 3 ∨ k = 5
          · exact c
          · rw [if_neg c] at ht; cases ht
        rw [if_pos h35] at ht
        have hf : freshW s = true := ht
        obtain ⟨hs1, -, hk⟩ := fresh_T hf
        have n1 : s ≠ wVoid := fresh_ne hf (.inl (by decide +kernel))
        have n2 : s ≠ wInt := fresh_ne hf (.inl (by decide +kernel))
        by_cases h5 : k = 5
        · rw [if_pos h5] at h
          subst h5
          have h : At r ((1, s, 0) :: (3, wLb, 0) :: (3, wRb, 0) :: ts) := by
            have a2 := T_lb.1; have a3 := T_rb.1
            unfold wLb at a2; unfold wRb at a3
            rw [List.map_cons, List.map_cons, List.map_cons, List.map_nil, hs1, a2, a3] at h
            exact h
          obtain ⟨f1, f2, f3⟩ := at_fresh h hk
          have hy : r.is wInt = false := at_no h n2
          have hx : r.is wVoid = false := at_no h n1
          have hb : r.fresh.is wLb = true := at_yes f3 (by decide)
          unfold Rs.kindV Rs.kind Rs.rowR
          rw [if_neg (by rw [hx]; decide), if_neg (by rw [hy]; decide), if_pos hb, if_neg (by rw [hx]; decide), if_neg (by rw [hy]; decide), if_pos hb, f2]
          exact ⟨rfl, at_want (at_cons f3).2.2 (by decide)⟩
        · rw [if_neg h5] at h
          have h3 : k = 3 := by omega
          subst h3
          have h : At r ((1, s, 0) :: ts) := by
            rw [List.map_cons, List.map_nil, hs1] at h
            exact h
          obtain ⟨f1, f2, f3⟩ := at_fresh h hk
          have hy : r.is wInt = false := at_no h n2
          have hx : r.is wVoid = false := at_no h n1
          have hb := at_noW f3 hn
          unfold Rs.kindV Rs.kind Rs.rowR
          rw [if_neg (by rw [hx]; decide), if_neg (by rw [hy]; decide), if_neg (by rw [hb]; decide), if_neg (by rw [hx]; decide), if_neg (by rw [hy]; decide), if_neg (by rw [hb]; decide), f2]
          exact ⟨rfl, f3⟩
end Go.Proofs.YtimhbimpaiiceaaDoor.Ax
