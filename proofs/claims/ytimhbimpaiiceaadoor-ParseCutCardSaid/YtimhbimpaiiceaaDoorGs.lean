/- Layers parse and show: what is shown is read again: lists, methods, classes, programs. -/
import Derived.Test.YtimhbimpaiiceaaDoorGb
import Derived.Test.YtimhbimpaiiceaaDoorLp
import Derived.Test.YtimhbimpaiiceaaDoorSg
set_option linter.unusedVariables false
set_option linter.unusedSimpArgs false
namespace Go.Proofs.YtimhbimpaiiceaaDoor.Ax
open Go Go.RowKit
/-! ### What show writes -/
def dig (n : Int) : ByteArray := itoaB n
def freshW (s : ByteArray) : Bool := freshF s.data.toList
def tyOk (t : Ty) : Bool := typedF t.1 t.2.data.toList
def insOk (x : Ins) : Bool := instrF x.op x.n x.a.data.toList x.b.data.toList
def catOk (c : Cat) : Bool := catchF c.name.data.toList c.fr c.up c.at'
def fldOk (f : Fld) : Bool := freshW f.name && tyOk f.type
def methOk (m : Meth) : Bool := !(m.abs && (decide (m.locals ≠ 0) || decide (m.code.length + m.catches.length > 0))) && (freshW m.name && ((decide (m.params.length ≤ 4) && m.params.all tyOk) && (tyOk m.ret && (inF m.locals 0 8 && ((decide (m.code.length ≤ 48) && m.code.all insOk) && (decide (m.catches.length ≤ 4) && m.catches.all catOk))))))
def clsOk (c : Cls) : Bool := freshW c.name && ((decide (c.super = noS) || (!c.iface && freshW c.super)) && ((decide (c.ifaces.length ≤ 4) && c.ifaces.all freshW) && ((decide (c.fields.length ≤ 6) && c.fields.all fldOk) && (decide (c.methods.length ≤ 6) && c.methods.all methOk))))
def prgOk (p : List Cls) : Bool := decide (p.length ≤ 10) && p.all clsOk
def kindW (t : Ty) : List ByteArray := kindF t.1 t.2
def listF (w : ByteArray) : List ByteArray → List ByteArray
  | [] => []
  | s :: r => [w, s] ++ r.flatMap fun x => [wComma, x]
def codeF (x : Ins) : List ByteArray := [wordF2 x.op] ++ ((if (numsF x.op).2.2 then [dig x.n] else []) ++ ((if x.a = noS then [] else [x.a]) ++ ((if x.b = noS then [] else [x.b]) ++ [wSemi])))
def paramsF : List Ty → List ByteArray
  | [] => []
  | t :: r => kindW t ++ r.flatMap fun x => wComma :: kindW x
def catF (c : Cat) : List ByteArray := [wCatch, c.name, dig c.fr, dig c.up, dig c.at', wSemi]
def doesF (m : Meth) : List ByteArray := [if m.static then wFunction else wMethod, m.name, wLp] ++ (paramsF m.params ++ ([wRp] ++ (kindW m.ret ++ (if m.abs then [wSemi] else [wLocals, dig m.locals, wLc] ++ (m.code.flatMap codeF ++ (m.catches.flatMap catF ++ [wRc]))))))
def fldF (f : Fld) : List ByteArray := [if f.static then wStatic else wField, f.name, wColon] ++ (kindW f.type ++ [wSemi])
def wordsC (c : Cls) : List ByteArray := [if c.iface then wInterface else wClass, c.name] ++ ((if c.super = noS then [] else [wExtends, c.super]) ++ (listF (if c.iface then wExtends else wImplements) c.ifaces ++ ([wLc] ++ (c.fields.flatMap fldF ++ (c.methods.flatMap doesF ++ [wRc])))))
def sepOf (w : ByteArray) : UInt8 := if w = wLc ∨ w = wRc ∨ w = wSemi then 10 else 32
def putW (w : ByteArray) : List UInt8 := w.data.toList ++ [sepOf w]
def textC (c : Cls) : List UInt8 := (wordsC c).flatMap putW
def textP (p : List Cls) : List UInt8 := p.flatMap textC
def showF (p : List Cls) : List UInt8 × Int := if prgOk p then (if 6000 < (textP p).length then ([], 2) else (textP p, 0)) else ([], 4)

/-! ### Words as tokens -/
abbrev T3 := Int × ByteArray × Int
def s3 (t : Tok) : T3 := (t.1, t.2.1, t.2.2.1)
def tokT (w : ByteArray) : T3 := s3 (tokenF w.data.toList).1
def tokB (w : ByteArray) : Bool := (tokenF w.data.toList).2
theorem ba_eta (s : ByteArray) : txt s.data.toList = s := rfl
theorem name_T {s : ByteArray} (h : nameF s.data.toList = true) : tokT s = (1, s, 0) ∧ tokB s = true := by
  unfold tokT tokB
  rw [tok_name h]
  exact ⟨rfl, rfl⟩
theorem sign_T {s : ByteArray} (h : s.data.toList.length = 1) (hs : isSign (s.data.toList.getD 0 0) = true) : tokT s = (3, s, 0) ∧ tokB s = true := by
  unfold tokT tokB
  rw [tok_sign h hs]
  exact ⟨rfl, rfl⟩
theorem num_T {n : Int} (h : inR n) : tokT (dig n) = (2, noS, n) ∧ tokB (dig n) = true := by
  unfold tokT tokB
  rw [show (dig n).data.toList = Lib.itoa n by simp [dig, itoaB], tok_num h]
  exact ⟨rfl, rfl⟩
theorem T_void : tokT wVoid = (1, wVoid, 0) ∧ tokB wVoid = true := name_T (by decide +kernel)
theorem T_int : tokT wInt = (1, wInt, 0) ∧ tokB wInt = true := name_T (by decide +kernel)
theorem T_locals : tokT wLocals = (1, wLocals, 0) ∧ tokB wLocals = true := name_T (by decide +kernel)
theorem T_catch : tokT wCatch = (1, wCatch, 0) ∧ tokB wCatch = true := name_T (by decide +kernel)
theorem T_field : tokT wField = (1, wField, 0) ∧ tokB wField = true := name_T (by decide +kernel)
theorem T_static : tokT wStatic = (1, wStatic, 0) ∧ tokB wStatic = true := name_T (by decide +kernel)
theorem T_method : tokT wMethod = (1, wMethod, 0) ∧ tokB wMethod = true := name_T (by decide +kernel)
theorem T_function : tokT wFunction = (1, wFunction, 0) ∧ tokB wFunction = true := name_T (by decide +kernel)
theorem T_class : tokT wClass = (1, wClass, 0) ∧ tokB wClass = true := name_T (by decide +kernel)
theorem T_interface : tokT wInterface = (1, wInterface, 0) ∧ tokB wInterface = true := name_T (by decide +kernel)
theorem T_extends : tokT wExtends = (1, wExtends, 0) ∧ tokB wExtends = true := name_T (by decide +kernel)
theorem T_implements : tokT wImplements = (1, wImplements, 0) ∧ tokB wImplements = true := name_T (by decide +kernel)
theorem T_lb : tokT wLb = (3, wLb, 0) ∧ tokB wLb = true := sign_T (by decide +kernel) (by decide +kernel)
theorem T_rb : tokT wRb = (3, wRb, 0) ∧ tokB wRb = true := sign_T (by decide +kernel) (by decide +kernel)
theorem T_lp : tokT wLp = (3, wLp, 0) ∧ tokB wLp = true := sign_T (by decide +kernel) (by decide +kernel)
theorem T_rp : tokT wRp = (3, wRp, 0) ∧ tokB wRp = true := sign_T (by decide +kernel) (by decide +kernel)
theorem T_lc : tokT wLc = (3, wLc, 0) ∧ tokB wLc = true := sign_T (by decide +kernel) (by decide +kernel)
theorem T_rc : tokT wRc = (3, wRc, 0) ∧ tokB wRc = true := sign_T (by decide +kernel) (by decide +kernel)
theorem T_comma : tokT wComma = (3, wComma, 0) ∧ tokB wComma = true := sign_T (by decide +kernel) (by decide +kernel)
theorem T_semi : tokT wSemi = (3, wSemi, 0) ∧ tokB wSemi = true := sign_T (by decide +kernel) (by decide +kernel)
theorem T_colon : tokT wColon = (3, wColon, 0) ∧ tokB wColon = true := sign_T (by decide +kernel) (by decide +kernel)
/-- a fresh name is none of the words that are kept, and no sign -/
theorem fresh_T {s : ByteArray} (h : freshW s = true) : tokT s = (1, s, 0) ∧ tokB s = true ∧ keptW s = false := by
  unfold freshW freshF at h
  rw [Bool.and_eq_true] at h
  exact ⟨(name_T h.1).1, (name_T h.1).2, by simpa [keptW] using h.2⟩
theorem fresh_ne {s w : ByteArray} (h : freshW s = true) (hw : keptW w = true ∨ nameF w.data.toList = false) : s ≠ w := by
  rintro rfl
  unfold freshW freshF at h
  rw [Bool.and_eq_true] at h
  rcases hw with hw | hw
  · have := h.2
    rw [show keptF s.data.toList = true from hw] at this; cases this
  · rw [hw] at h; cases h.1
theorem fresh_noS {s : ByteArray} (h : freshW s = true) : s ≠ noS := fresh_ne h (.inr (by decide +kernel))

/-! ### A reader ahead of words -/
structure At (r : Rs) (ts : List T3) : Prop where
  e : r.e = 0
  ts : (r.L.drop r.i).map s3 = ts
theorem at_cons {r : Rs} {t : T3} {ts : List T3} (h : At r (t :: ts)) : r.i < r.L.length ∧ s3 r.next = t ∧ At r.step ts := by
  have h1 := h.ts
  by_cases hlt : r.i < r.L.length
  · rw [List.drop_eq_getElem_cons hlt] at h1
    simp only [List.map_cons, List.cons.injEq] at h1
    refine ⟨hlt, ?_, ⟨h.e, h1.2⟩⟩
    rw [Rs.next_some ⟨h.e, hlt⟩, show r.L.getD r.i tok0 = r.L[r.i] by simp [List.getD, hlt]]
    exact h1.1
  · rw [List.drop_eq_nil_of_le (by omega)] at h1
    cases h1
theorem at_nil {r : Rs} (h : At r []) : r.next = tok0 := by
  refine Rs.next_none fun c => ?_
  have h1 := h.ts
  rw [List.drop_eq_getElem_cons c.2] at h1
  cases h1
theorem at_next {r : Rs} {k n : Int} {w : ByteArray} {ts : List T3} (h : At r ((k, w, n) :: ts)) : r.next.1 = k ∧ r.next.2.1 = w ∧ r.next.2.2.1 = n := by
  have := (at_cons h).2.1
  unfold s3 at this
  simp only [Prod.mk.injEq] at this
  exact this
theorem at_is {r : Rs} {k n : Int} {w : ByteArray} {ts : List T3} (h : At r ((k, w, n) :: ts)) (w' : ByteArray) : r.is w' = (decide (w = w') && decide (w' ≠ noS)) := by
  unfold Rs.is
  rw [(at_next h).2.1]
theorem at_yes {r : Rs} {k n : Int} {w : ByteArray} {ts : List T3} (h : At r ((k, w, n) :: ts)) (hw : w ≠ noS) : r.is w = true := by
  rw [at_is h]; simp [hw]
theorem at_no {r : Rs} {k n : Int} {w w' : ByteArray} {ts : List T3} (h : At r ((k, w, n) :: ts)) (hw : w ≠ w') : r.is w' = false := by
  rw [at_is h]; simp [hw]
theorem at_is0 {r : Rs} (h : At r []) (w : ByteArray) : r.is w = false := by
  unfold Rs.is
  rw [at_nil h]
  simp
  exact fun c => c.symm
theorem at_want {r : Rs} {k n : Int} {w : ByteArray} {ts : List T3} (h : At r ((k, w, n) :: ts)) (hw : w ≠ noS) : At (r.want w) ts := by
  unfold Rs.want
  rw [if_pos (at_yes h hw)]
  exact (at_cons h).2.2
theorem at_fresh {r : Rs} {s : ByteArray} {ts : List T3} (h : At r ((1, s, 0) :: ts)) (hk : keptW s = false) : r.free = true ∧ r.freshV = s ∧ At r.fresh ts := by
  have hf : r.free = true := by
    unfold Rs.free
    rw [(at_next h).1, (at_next h).2.1, hk]; rfl
  refine ⟨hf, ?_, ?_⟩
  · unfold Rs.freshV
    rw [if_pos hf, (at_next h).2.1]
  · unfold Rs.fresh
    rw [if_pos hf]
    exact (at_cons h).2.2
theorem at_num {r : Rs} {n lo hi : Int} {ts : List T3} (h : At r ((2, noS, n) :: ts)) (h1 : lo ≤ n) (h2 : n ≤ hi) : r.numV lo hi = n ∧ At (r.num lo hi) ts := by
  have hf : r.numOk lo hi = true := by
    unfold Rs.numOk
    rw [(at_next h).1, (at_next h).2.2]
    exact decide_eq_true ⟨rfl, h1, h2⟩
  refine ⟨?_, ?_⟩
  · unfold Rs.numV
    rw [if_pos hf, (at_next h).2.2]
  · unfold Rs.num
    rw [if_pos hf]
    exact (at_cons h).2.2
theorem room_lt (r : Rs) {a b : Int} (h : a < b) : r.room a b = r := by
  unfold Rs.room
  rw [if_neg (by omega)]
theorem at_len {r : Rs} {ts : List T3} (h : At r ts) : ts.length = r.L.length - r.i := by
  rw [← h.ts]; simp
/-- not this word next -/
def noW (ts : List T3) (w : ByteArray) : Prop := ∀ t, ts.head? = some t → t.2.1 ≠ w
theorem at_noW {r : Rs} {ts : List T3} {w : ByteArray} (h : At r ts) (hn : noW ts w) : r.is w = false := by
  cases ts with
  | nil => exact at_is0 h w
  | cons t ts =>
    obtain ⟨k, w', n⟩ := t
    exact at_no h (hn _ rfl)
theorem noW_cons {k n : Int} {w w' : ByteArray} {ts : List T3} (h : w ≠ w') : noW ((k, w, n) :: ts) w' := fun t e => by
  cases e; exact h

/-- a type's words -/
theorem at_kind {r : Rs} {t : Ty} {ts : List T3} (ht : tyOk t = true) (h : At r ((kindW t).map tokT ++ ts)) (hn : noW ts wLb) : r.kindV = t ∧ At r.kind ts := by
  obtain ⟨k, s⟩ := t
  unfold tyOk typedF at ht
  unfold kindW kindF at h
  have hv : ¬ (wInt = wVoid) := by decide
  simp only at ht h
  by_cases h1 : k = 1
  · rw [if_pos (.inl h1)] at ht
    rw [if_pos h1] at h
    have hs : s = noS := by
      have := of_decide_eq_true ht
      exact ByteArray.ext (Array.ext' this)
    subst h1 hs
    have h : At r ((1, wVoid, 0) :: ts) := by
      have := T_void.1
      unfold wVoid at this
      rw [List.map_cons, List.map_nil, this] at h
      exact h
    have hy : r.is wVoid = true := at_yes h (by decide)
    unfold Rs.kindV Rs.kind
    rw [if_pos hy, if_pos hy]
    exact ⟨rfl, (at_cons h).2.2⟩
  · rw [if_neg h1] at h
    by_cases h2 : k = 2
    · rw [if_pos (.inr (.inl h2))] at ht
      rw [if_pos h2] at h
      have hs : s = noS := ByteArray.ext (Array.ext' (of_decide_eq_true ht))
      subst h2 hs
      have h : At r ((1, wInt, 0) :: ts) := by
        have := T_int.1
        unfold wInt at this
        rw [List.map_cons, List.map_nil, this] at h
        exact h
      have hy : r.is wInt = true := at_yes h (by decide)
      have hx : r.is wVoid = false := at_no h (by decide)
      have hb := at_noW (at_cons h).2.2 hn
      unfold Rs.kindV Rs.kind Rs.rowR
      rw [if_neg (by rw [hx]; decide), if_pos hy, if_neg (by rw [hb]; decide), if_neg (by rw [hx]; decide), if_pos hy, if_neg (by rw [hb]; decide)]
      exact ⟨rfl, (at_cons h).2.2⟩
    · rw [if_neg h2] at h
      by_cases h4 : k = 4
      · rw [if_pos (.inr (.inr h4))] at ht
        rw [if_pos h4] at h
        have hs : s = noS := ByteArray.ext (Array.ext' (of_decide_eq_true ht))
        subst h4 hs
        have h : At r ((1, wInt, 0) :: (3, wLb, 0) :: (3, wRb, 0) :: ts) := by
          have a1 := T_int.1; have a2 := T_lb.1; have a3 := T_rb.1
          unfold wInt at a1; unfold wLb at a2; unfold wRb at a3
          rw [List.map_cons, List.map_cons, List.map_cons, List.map_nil, a1, a2, a3] at h
          exact h
        have hy : r.is wInt = true := at_yes h (by decide)
        have hx : r.is wVoid = false := at_no h (by decide)
        have hb : r.step.is wLb = true := at_yes (at_cons h).2.2 (by decide)
        unfold Rs.kindV Rs.kind Rs.rowR
        rw [if_neg (by rw [hx]; decide), if_pos hy, if_pos hb, if_neg (by rw [hx]; decide), if_pos hy, if_pos hb]
        exact ⟨rfl, at_want (at_cons (at_cons h).2.2).2.2 (by decide)⟩
      · rw [if_neg h4] at h
        rw [if_neg (by omega)] at ht
        have h35 : k = 3 ∨ k = 5 := by
          by_cases c : k = 3 ∨ k = 5
          · exact c
          · rw [if_neg c] at ht; cases ht
        rw [if_pos h35] at ht
        have hf : freshW s = true := ht
        obtain ⟨hs1, -, hk⟩ := fresh_T hf
        have n1 : s ≠ wVoid := fresh_ne hf (.inl (by decide +kernel))
        have n2 : s ≠ wInt := fresh_ne hf (.inl (by decide +kernel))
        by_cases h5 : k = 5
        · rw [if_pos h5] at h
          subst h5
          have h : At r ((1, s, 0) :: (3, wLb, 0) :: (3, wRb, 0) :: ts) := by
            have a2 := T_lb.1; have a3 := T_rb.1
            unfold wLb at a2; unfold wRb at a3
            rw [List.map_cons, List.map_cons, List.map_cons, List.map_nil, hs1, a2, a3] at h
            exact h
          obtain ⟨f1, f2, f3⟩ := at_fresh h hk
          have hy : r.is wInt = false := at_no h n2
          have hx : r.is wVoid = false := at_no h n1
          have hb : r.fresh.is wLb = true := at_yes f3 (by decide)
          unfold Rs.kindV Rs.kind Rs.rowR
          rw [if_neg (by rw [hx]; decide), if_neg (by rw [hy]; decide), if_pos hb, if_neg (by rw [hx]; decide), if_neg (by rw [hy]; decide), if_pos hb, f2]
          exact ⟨rfl, at_want (at_cons f3).2.2 (by decide)⟩
        · rw [if_neg h5] at h
          have h3 : k = 3 := by omega
          subst h3
          have h : At r ((1, s, 0) :: ts) := by
            rw [List.map_cons, List.map_nil, hs1] at h
            exact h
          obtain ⟨f1, f2, f3⟩ := at_fresh h hk
          have hy : r.is wInt = false := at_no h n2
          have hx : r.is wVoid = false := at_no h n1
          have hb := at_noW f3 hn
          unfold Rs.kindV Rs.kind Rs.rowR
          rw [if_neg (by rw [hx]; decide), if_neg (by rw [hy]; decide), if_neg (by rw [hb]; decide), if_neg (by rw [hx]; decide), if_neg (by rw [hy]; decide), if_neg (by rw [hb]; decide), f2]
          exact ⟨rfl, f3⟩
abbrev tks (ws : List ByteArray) : List T3 := ws.map tokT
theorem name_sign {s w : ByteArray} (h : nameF s.data.toList = true) (hw : nameF w.data.toList = false) : s ≠ w := by
  rintro rfl
  rw [hw] at h; cases h
theorem kind_head {t : Ty} (ht : tyOk t = true) : ∃ w rest, tks (kindW t) = (1, w, 0) :: rest ∧ nameF w.data.toList = true := by
  obtain ⟨k, s⟩ := t
  unfold tyOk typedF at ht
  unfold kindW kindF
  simp only at ht ⊢
  by_cases h1 : k = 1
  · rw [if_pos h1]; exact ⟨wVoid, [], by rw [← T_void.1]; rfl, by decide +kernel⟩
  · rw [if_neg h1]
    by_cases h2 : k = 2
    · rw [if_pos h2]; exact ⟨wInt, [], by rw [← T_int.1]; rfl, by decide +kernel⟩
    · rw [if_neg h2]
      by_cases h4 : k = 4
      · rw [if_pos h4]; exact ⟨wInt, tks [wLb, wRb], by rw [← T_int.1]; rfl, by decide +kernel⟩
      · rw [if_neg h4]
        rw [if_neg (by omega)] at ht
        have h35 : k = 3 ∨ k = 5 := by
          by_cases c : k = 3 ∨ k = 5
          · exact c
          · rw [if_neg c] at ht; cases ht
        rw [if_pos h35] at ht
        have hf : freshW s = true := ht
        have hn : nameF s.data.toList = true := by
          unfold freshW freshF at hf
          rw [Bool.and_eq_true] at hf; exact hf.1
        by_cases h5 : k = 5
        · rw [if_pos h5]; exact ⟨s, tks [wLb, wRb], by rw [← (fresh_T hf).1]; rfl, hn⟩
        · rw [if_neg h5]; exact ⟨s, [], by rw [← (fresh_T hf).1]; rfl, hn⟩
theorem noW_kind {t : Ty} (ht : tyOk t = true) (ts : List T3) {w : ByteArray} (hw : nameF w.data.toList = false) : noW (tks (kindW t) ++ ts) w := by
  obtain ⟨v, rest, e, hv⟩ := kind_head ht
  rw [e]
  exact noW_cons (name_sign hv hw)
theorem at_namesL : ∀ (l : List ByteArray) (f : Nat) (r : Rs) (out : List ByteArray) (ts : List T3), (∀ s ∈ l, freshW s = true) → out.length + l.length ≤ 4 → l.length < f →
    At r (tks (l.flatMap fun x => [wComma, x]) ++ ts) → noW ts wComma → (Rs.namesL f r out).1 = out ++ l ∧ At (Rs.namesL f r out).2 ts
  | _, 0, _, _, _, _, _, hf, _, _ => by omega
  | [], f + 1, r, out, ts, _, _, _, h, hn => by
    have h : At r ts := h
    unfold Rs.namesL
    rw [if_neg (by rw [at_noW h hn]; decide)]
    exact ⟨by simp, h⟩
  | s :: l, f + 1, r, out, ts, hs, hl, hf, h, hn => by
    have hf1 := fresh_T (hs s (by simp))
    have h : At r ((3, wComma, 0) :: (1, s, 0) :: (tks (l.flatMap fun x => [wComma, x]) ++ ts)) := by
      rw [← T_comma.1, ← hf1.1]; exact h
    have hy := at_yes h (by decide)
    have h2 := (at_cons h).2.2
    obtain ⟨f1, f2, f3⟩ := at_fresh h2 hf1.2.2
    simp only [List.length_cons] at hl hf
    have e1 : r.name1 out.length = r.step := by
      unfold Rs.name1
      rw [if_pos f1, room_lt _ (by omega)]
    unfold Rs.namesL
    rw [if_pos hy, e1, f2]
    have := at_namesL l f r.step.fresh (out ++ [s]) ts (fun x hx => hs x (by simp [hx])) (by simp; omega) (by omega) f3 hn
    exact ⟨by rw [this.1]; simp, this.2⟩
theorem flat_len {α : Type} (g : α → List ByteArray) : ∀ (l : List α), (∀ x ∈ l, 0 < (g x).length) → l.length ≤ (l.flatMap g).length
  | [], _ => by simp
  | x :: l, h => by
    have := flat_len g l (fun y hy => h y (by simp [hy]))
    have := h x (by simp)
    rw [List.flatMap_cons, List.length_append, List.length_cons]; omega
theorem at_names {s : ByteArray} {l : List ByteArray} {r : Rs} {ts : List T3} (hs : ∀ x ∈ s :: l, freshW x = true) (hl : (s :: l).length ≤ 4)
    (h : At r (tokT s :: (tks (l.flatMap fun x => [wComma, x]) ++ ts))) (hn : noW ts wComma) : r.names.1 = s :: l ∧ At r.names.2 ts := by
  have hf1 := fresh_T (hs s (by simp))
  have hlen := at_len h
  have hfl := flat_len (fun x => [wComma, x]) l (fun _ _ => by simp)
  rw [hf1.1] at h
  obtain ⟨f1, f2, f3⟩ := at_fresh h hf1.2.2
  simp only [List.length_cons, List.length_append, List.length_map] at hlen hl
  have := at_namesL l (r.L.length + 2) r.fresh [s] ts (fun x hx => hs x (by simp [hx])) (by simp; omega) (by omega) f3 hn
  unfold Rs.names
  rw [f2]
  exact ⟨this.1, this.2⟩
theorem at_paramsL : ∀ (l : List Ty) (f : Nat) (r : Rs) (out : List Ty) (ts : List T3), (∀ t ∈ l, tyOk t = true) → out.length + l.length ≤ 4 → l.length < f →
    At r (tks (l.flatMap fun x => wComma :: kindW x) ++ ts) → noW ts wComma → noW ts wLb → (Rs.paramsL f r out).1 = out ++ l ∧ At (Rs.paramsL f r out).2 ts
  | _, 0, _, _, _, _, _, hf, _, _, _ => by omega
  | [], f + 1, r, out, ts, _, _, _, h, hn, _ => by
    have h : At r ts := h
    unfold Rs.paramsL
    rw [if_neg (by rw [at_noW h hn]; decide)]
    exact ⟨by simp, h⟩
  | t :: l, f + 1, r, out, ts, hs, hl, hf, h, hn, hb => by
    have h : At r ((3, wComma, 0) :: (tks (kindW t) ++ (tks (l.flatMap fun x => wComma :: kindW x) ++ ts))) := by
      rw [← T_comma.1]
      simpa [tks, List.flatMap_cons] using h
    have hy := at_yes h (by decide)
    have h2 := (at_cons h).2.2
    have hnb : noW (tks (l.flatMap fun x => wComma :: kindW x) ++ ts) wLb := by
      cases l with
      | nil => exact hb
      | cons x l =>
        show noW (tokT wComma :: _) wLb
        rw [T_comma.1]
        exact noW_cons (by decide)
    obtain ⟨f2, f3⟩ := at_kind (hs t (by simp)) h2 hnb
    simp only [List.length_cons] at hl hf
    have e1 : r.param1 out.length = r.step := by
      unfold Rs.param1
      split
      · rw [room_lt _ (by omega)]
      · rfl
    unfold Rs.paramsL
    rw [if_pos hy, e1, f2]
    have := at_paramsL l f r.step.kind (out ++ [t]) ts (fun x hx => hs x (by simp [hx])) (by simp; omega) (by omega) f3 hn hb
    exact ⟨by rw [this.1]; simp, this.2⟩
theorem at_params {ps : List Ty} {r : Rs} {ts : List T3} (hs : ∀ t ∈ ps, tyOk t = true) (hl : ps.length ≤ 4) (h : At r (tokT wLp :: (tks (paramsF ps) ++ tokT wRp :: ts))) : r.params.1 = ps ∧ At r.params.2 ts := by
  rw [T_lp.1, T_rp.1] at h
  have h1 := at_want h (by decide)
  cases ps with
  | nil =>
    have h1 : At (r.want wLp) ((3, wRp, 0) :: ts) := h1
    unfold Rs.params
    rw [if_pos (at_yes h1 (by decide))]
    exact ⟨rfl, (at_cons h1).2.2⟩
  | cons t l =>
    have h1 : At (r.want wLp) (tks (kindW t) ++ (tks (l.flatMap fun x => wComma :: kindW x) ++ (3, wRp, 0) :: ts)) := by
      simpa [tks, paramsF] using h1
    have hno : (r.want wLp).is wRp = false := at_noW h1 (noW_kind (hs t (by simp)) _ (by decide +kernel))
    have hnb : noW (tks (l.flatMap fun x => wComma :: kindW x) ++ (3, wRp, 0) :: ts) wLb := by
      cases l with
      | nil => exact noW_cons (by decide)
      | cons x l =>
        show noW (tokT wComma :: _) wLb
        rw [T_comma.1]
        exact noW_cons (by decide)
    obtain ⟨f2, f3⟩ := at_kind (hs t (by simp)) h1 hnb
    have hlen := at_len f3
    have hfl := flat_len (fun x => wComma :: kindW x) l (fun _ _ => by simp)
    have hL : (r.want wLp).kind.L = r.L := ((Rs.want_fwd r wLp).trans (Rs.kind_fwd _)).L
    rw [hL] at hlen
    simp only [List.length_cons, List.length_append, List.length_map] at hlen hl
    have := at_paramsL l (r.L.length + 2) (r.want wLp).kind [t] ((3, wRp, 0) :: ts) (fun x hx => hs x (by simp [hx])) (by simp; omega) (by omega) f3 (noW_cons (by decide)) (noW_cons (by decide))
    unfold Rs.params
    rw [if_neg (by rw [hno]; decide), f2]
    exact ⟨by rw [this.1]; rfl, at_want this.2 (by decide)⟩
/-! ### Instructions -/
theorem op_facts : ∀ k, k < 44 → nameF (opsL.getD k noS).data.toList = true ∧ opV (opsL.getD k noS) = (k : Int) ∧ keptW (opsL.getD k noS) = false := by decide +kernel
theorem nums_R (o : Int) : -2147483648 ≤ (numsF o).1 ∧ (numsF o).2.1 ≤ 2147483647 ∧ ((numsF o).2.2 = false → (numsF o).1 = 0 ∧ (numsF o).2.1 = 0) := by
  unfold numsF
  split
  · exact ⟨by decide, by decide, fun h => by cases h⟩
  · split
    · exact ⟨by decide, by decide, fun h => by cases h⟩
    · split
      · exact ⟨by decide, by decide, fun h => by cases h⟩
      · exact ⟨by decide, by decide, fun _ => ⟨rfl, rfl⟩⟩
theorem named_T {s : ByteArray} {b : Bool} (h : namedF s.data.toList b = true) : (b = true → freshW s = true) ∧ (b = false → s = noS) := by
  unfold namedF at h
  refine ⟨fun hb => ?_, fun hb => ?_⟩
  · rw [if_pos hb] at h; exact h
  · rw [if_neg (by rw [hb]; decide)] at h
    exact ByteArray.ext (Array.ext' (of_decide_eq_true h))
theorem ins_parts {x : Ins} (h : insOk x = true) : 0 ≤ x.op ∧ x.op ≤ 43 ∧ (numsF x.op).1 ≤ x.n ∧ x.n ≤ (numsF x.op).2.1 ∧ namedF x.a.data.toList (decide (namesF x.op > 0)) = true ∧ namedF x.b.data.toList (decide (namesF x.op > 1)) = true := by
  unfold insOk instrF at h
  rw [Bool.and_eq_true, Bool.and_eq_true, Bool.and_eq_true] at h
  obtain ⟨⟨⟨h1, h2⟩, h3⟩, h4⟩ := h
  unfold inF at h1 h2
  have h1 := of_decide_eq_true h1
  have h2 := of_decide_eq_true h2
  exact ⟨h1.1, h1.2, h2.1, h2.2, h3, h4⟩
theorem word_op {o : Int} (h0 : 0 ≤ o) (h1 : o ≤ 43) : nameF (wordF2 o).data.toList = true ∧ opV (wordF2 o) = o ∧ keptW (wordF2 o) = false := by
  unfold wordF2
  rw [if_neg (by omega)]
  have := op_facts o.toNat (by omega)
  exact ⟨this.1, by rw [this.2.1]; omega, this.2.2⟩
theorem name_noS {s : ByteArray} (h : nameF s.data.toList = true) : s ≠ noS := name_sign h (by decide +kernel)
theorem at_in3 {r : Rs} {s : ByteArray} {b : Bool} {ts : List T3} (hs : namedF s.data.toList b = true) (h : At r (tks (if s = noS then [] else [s]) ++ ts)) : r.in3V b = s ∧ At (r.in3 b) ts := by
  cases b with
  | true =>
    have hf := (named_T hs).1 rfl
    rw [if_neg (fresh_noS hf)] at h
    have h : At r ((1, s, 0) :: ts) := by rw [← (fresh_T hf).1]; exact h
    obtain ⟨f1, f2, f3⟩ := at_fresh h (fresh_T hf).2.2
    exact ⟨f2, f3⟩
  | false =>
    have hf := (named_T hs).2 rfl
    rw [if_pos hf] at h
    exact ⟨hf.symm, h⟩
theorem at_in2 {r : Rs} {o n : Int} {ts : List T3} (h1 : (numsF o).1 ≤ n) (h2 : n ≤ (numsF o).2.1) (h : At r (tks (if (numsF o).2.2 then [dig n] else []) ++ ts)) : r.in2V o = n ∧ At (r.in2 o) ts := by
  have hR := nums_R o
  unfold Rs.in2V Rs.in2
  cases hc : (numsF o).2.2 with
  | true =>
    rw [if_pos hc] at h
    have h : At r ((2, noS, n) :: ts) := by
      rw [← (num_T (n := n) ⟨by omega, by omega⟩).1]; exact h
    rw [if_pos rfl, if_pos rfl]
    exact at_num h h1 h2
  | false =>
    rw [if_neg (by rw [hc]; decide)] at h
    rw [if_neg (by decide), if_neg (by decide)]
    have := hR.2.2 hc
    exact ⟨by omega, h⟩
theorem at_op {r : Rs} {o : Int} {ts : List T3} (h0 : 0 ≤ o) (h1 : o ≤ 43) (h : At r (tokT (wordF2 o) :: ts)) : r.isOp = true ∧ opV r.next.2.1 = o ∧ r.next.2.1 = wordF2 o ∧ At (r.want (wordF2 o)) ts := by
  obtain ⟨w1, w2, w3⟩ := word_op h0 h1
  rw [(name_T w1).1] at h
  have hx := at_next h
  refine ⟨?_, by rw [hx.2.1, w2], hx.2.1, at_want h (name_noS w1)⟩
  unfold Rs.isOp
  rw [hx.1, hx.2.1, w2]
  simpa using h0
theorem at_instr {x : Ins} {r : Rs} {ts : List T3} {many : Int} (hx : insOk x = true) (hm : many < 48) (h : At r (tks (codeF x) ++ ts)) : r.isOp = true ∧ (r.instr many).1 = x ∧ At (r.instr many).2 ts := by
  obtain ⟨h1, h2, h3, h4, h5, h6⟩ := ins_parts hx
  have h : At r (tokT (wordF2 x.op) :: (tks (if (numsF x.op).2.2 then [dig x.n] else []) ++ (tks (if x.a = noS then [] else [x.a]) ++ (tks (if x.b = noS then [] else [x.b]) ++ (tokT wSemi :: ts))))) := by
    have := h
    unfold codeF at this
    simpa [tks] using this
  obtain ⟨g1, g2, g3, g4⟩ := at_op h1 h2 h
  obtain ⟨i1, i2⟩ := at_in2 h3 h4 g4
  obtain ⟨j1, j2⟩ := at_in3 h5 i2
  obtain ⟨k1, k2⟩ := at_in3 h6 j2
  rw [T_semi.1] at k2
  refine ⟨g1, ?_, ?_⟩
  · unfold Rs.instr Rs.in1 Rs.inVal
    rw [g2, g3, room_lt _ hm]
    simp only
    rw [i1, j1, k1]
  · unfold Rs.instr Rs.in1 Rs.inArgs
    rw [g2, g3, room_lt _ hm]
    exact at_want k2 (by decide)
def noOp (ts : List T3) : Prop := ∀ t, ts.head? = some t → opV t.2.1 < 0
theorem at_noOp {r : Rs} {ts : List T3} (h : At r ts) (hn : noOp ts) : r.isOp = false := by
  unfold Rs.isOp
  cases ts with
  | nil => rw [at_nil h]; simp
  | cons t ts =>
    obtain ⟨k, w, n⟩ := t
    rw [(at_next h).2.1]
    have h2 := hn _ rfl
    simp only at h2
    simp
    intro _; omega
theorem at_codeL : ∀ (l : List Ins) (f : Nat) (r : Rs) (out : List Ins) (ts : List T3), (∀ x ∈ l, insOk x = true) → out.length + l.length ≤ 48 → l.length < f →
    At r (tks (l.flatMap codeF) ++ ts) → noOp ts → (Rs.codeL f r out).1 = out ++ l ∧ At (Rs.codeL f r out).2 ts
  | _, 0, _, _, _, _, _, hf, _, _ => by omega
  | [], f + 1, r, out, ts, _, _, _, h, hn => by
    have h : At r ts := h
    unfold Rs.codeL
    rw [if_neg (by rw [at_noOp h hn]; decide)]
    exact ⟨by simp, h⟩
  | x :: l, f + 1, r, out, ts, hs, hl, hf, h, hn => by
    have h : At r (tks (codeF x) ++ (tks (l.flatMap codeF) ++ ts)) := by
      simpa [tks, List.flatMap_cons] using h
    simp only [List.length_cons] at hl hf
    obtain ⟨g1, g2, g3⟩ := at_instr (many := out.length) (hs x (by simp)) (by omega) h
    unfold Rs.codeL
    rw [if_pos g1, g2]
    have := at_codeL l f _ (out ++ [x]) ts (fun y hy => hs y (by simp [hy])) (by simp; omega) (by omega) g3 hn
    exact ⟨by rw [this.1]; simp, this.2⟩
theorem cat_parts {c : Cat} (h : catOk c = true) : freshW c.name = true ∧ (0 ≤ c.fr ∧ c.fr ≤ 48) ∧ (0 ≤ c.up ∧ c.up ≤ 48) ∧ 0 ≤ c.at' ∧ c.at' ≤ 48 := by
  unfold catOk catchF at h
  rw [Bool.and_eq_true, Bool.and_eq_true, Bool.and_eq_true] at h
  obtain ⟨⟨⟨h1, h2⟩, h3⟩, h4⟩ := h
  exact ⟨h1, of_decide_eq_true h2, of_decide_eq_true h3, of_decide_eq_true h4⟩
theorem at_catch {c : Cat} {r : Rs} {ts : List T3} {many : Int} (hc : catOk c = true) (hm : many < 4) (h : At r (tks (catF c) ++ ts)) : r.is wCatch = true ∧ (r.ca1 many).catV = c ∧ At (r.ca1 many).catR ts := by
  obtain ⟨h1, h2, h3, h4⟩ := cat_parts hc
  have h : At r ((1, wCatch, 0) :: (1, c.name, 0) :: (2, noS, c.fr) :: (2, noS, c.up) :: (2, noS, c.at') :: (3, wSemi, 0) :: ts) := by
    rw [← T_catch.1, ← (fresh_T h1).1, ← (num_T (n := c.fr) ⟨by omega, by omega⟩).1, ← (num_T (n := c.up) ⟨by omega, by omega⟩).1, ← (num_T (n := c.at') ⟨by omega, by omega⟩).1, ← T_semi.1]
    exact h
  have g1 := at_want h (by decide)
  obtain ⟨-, f2, f3⟩ := at_fresh g1 (fresh_T h1).2.2
  obtain ⟨a1, a2⟩ := at_num f3 h2.1 h2.2
  obtain ⟨b1, b2⟩ := at_num a2 h3.1 h3.2
  obtain ⟨c1, c2⟩ := at_num b2 h4.1 h4.2
  refine ⟨at_yes h (by decide), ?_, ?_⟩
  · unfold Rs.ca1 Rs.catV
    rw [room_lt _ hm, f2, a1, b1, c1]
  · unfold Rs.ca1 Rs.catR
    rw [room_lt _ hm]
    exact at_want c2 (by decide)
theorem at_catchL : ∀ (l : List Cat) (f : Nat) (r : Rs) (out : List Cat) (ts : List T3), (∀ x ∈ l, catOk x = true) → out.length + l.length ≤ 4 → l.length < f →
    At r (tks (l.flatMap catF) ++ ts) → noW ts wCatch → (Rs.catchL f r out).1 = out ++ l ∧ At (Rs.catchL f r out).2 ts
  | _, 0, _, _, _, _, _, hf, _, _ => by omega
  | [], f + 1, r, out, ts, _, _, _, h, hn => by
    have h : At r ts := h
    unfold Rs.catchL
    rw [if_neg (by rw [at_noW h hn]; decide)]
    exact ⟨by simp, h⟩
  | x :: l, f + 1, r, out, ts, hs, hl, hf, h, hn => by
    have h : At r (tks (catF x) ++ (tks (l.flatMap catF) ++ ts)) := by
      simpa [tks, List.flatMap_cons] using h
    simp only [List.length_cons] at hl hf
    obtain ⟨g1, g2, g3⟩ := at_catch (many := out.length) (hs x (by simp)) (by omega) h
    unfold Rs.catchL
    rw [if_pos g1, g2]
    have := at_catchL l f _ (out ++ [x]) ts (fun y hy => hs y (by simp [hy])) (by simp; omega) (by omega) g3 hn
    exact ⟨by rw [this.1]; simp, this.2⟩
end Go.Proofs.YtimhbimpaiiceaaDoor.Ax
