/- The logic's operations are right: lists, frames, and what each operation does in memory. -/
import Derived.Test.YtobadhbdhomjnaaA2
set_option linter.unusedVariables false
set_option linter.unusedSimpArgs false
namespace Go.Proofs.Ytobadhbdhomjnaa.Ax
open Go Go.RowKit

/-! ### 1. Lists -/
theorem at'_ge {α : Type _} : ∀ (l : List α) (j : Nat) (d : α), l.length ≤ j → at' l j d = d
  | [], _, _, _ => rfl
  | x :: xs, 0, d, h => by simp at h
  | x :: xs, j + 1, d, h => at'_ge xs j d (by simpa using h)
theorem at'_get {α : Type _} : ∀ (l : List α) (j : Nat) (d : α) (h : j < l.length), at' l j d = l[j]
  | [], j, _, h => by simp at h
  | x :: xs, 0, d, h => rfl
  | x :: xs, j + 1, d, h => by simpa [at'] using at'_get xs j d (by simpa using h)
theorem Tr.half (i : Nat) : (Nat.mod i 2 = 0 ∧ i = 2 * Nat.div i 2) ∨ (Nat.mod i 2 = 1 ∧ i = 2 * Nat.div i 2 + 1) := by
  show (i % 2 = 0 ∧ i = 2 * (i / 2)) ∨ (i % 2 = 1 ∧ i = 2 * (i / 2) + 1)
  omega
theorem Tr.get_out {α : Type _} : ∀ (t : Tr α) (j : Nat) (d : α), t.has j = false → t.get j d = d
  | .nil, _, _, _ => rfl
  | .node v l r, 0, d, h => by simp [Tr.has] at h
  | .node v l r, j + 1, d, h => by
    simp only [Tr.has, Tr.get] at h ⊢
    rcases Tr.half j with ⟨e, -⟩ | ⟨e, -⟩
    · rw [e] at h ⊢; exact Tr.get_out l _ d h
    · rw [e] at h ⊢; exact Tr.get_out r _ d h
theorem Tr.has_put {α : Type _} : ∀ (t : Tr α) (i j : Nat) (v : α), (t.put i v).has j = t.has j
  | .nil, _, _, _ => rfl
  | .node x l r, 0, j, v => by cases j <;> rfl
  | .node x l r, i + 1, j, v => by
    simp only [Tr.put]
    rcases Tr.half i with ⟨e, -⟩ | ⟨e, -⟩ <;> rw [e] <;> cases j with
    | zero => rfl
    | succ j =>
      simp only [Tr.has]
      rcases Tr.half j with ⟨e', -⟩ | ⟨e', -⟩ <;> rw [e'] <;> first | exact Tr.has_put _ _ _ _ | rfl
theorem Tr.get_put_same {α : Type _} : ∀ (t : Tr α) (i : Nat) (v d : α), t.has i = true → (t.put i v).get i d = v
  | .node x l r, 0, v, d, _ => rfl
  | .node x l r, i + 1, v, d, h => by
    simp only [Tr.put, Tr.has] at h ⊢
    rcases Tr.half i with ⟨e, -⟩ | ⟨e, -⟩ <;> rw [e] at h ⊢ <;> simp only [Tr.get] <;> rw [e]
    · exact Tr.get_put_same l _ v d h
    · exact Tr.get_put_same r _ v d h
theorem Tr.get_put_other {α : Type _} : ∀ (t : Tr α) (i j : Nat) (v d : α), i ≠ j → (t.put i v).get j d = t.get j d
  | .nil, _, _, _, _, _ => rfl
  | .node x l r, 0, 0, v, d, h => absurd rfl h
  | .node x l r, 0, j + 1, v, d, h => rfl
  | .node x l r, i + 1, 0, v, d, h => by
    simp only [Tr.put]
    rcases Tr.half i with ⟨e, -⟩ | ⟨e, -⟩ <;> rw [e] <;> rfl
  | .node x l r, i + 1, j + 1, v, d, h => by
    simp only [Tr.put]
    rcases Tr.half i with ⟨e, ei⟩ | ⟨e, ei⟩ <;> rw [e] <;> simp only [Tr.get] <;> rcases Tr.half j with ⟨e', ej⟩ | ⟨e', ej⟩ <;> rw [e']
    · exact Tr.get_put_other l (Nat.div i 2) (Nat.div j 2) v d (by omega)
    · rfl
    · rfl
    · exact Tr.get_put_other r (Nat.div i 2) (Nat.div j 2) v d (by omega)
theorem Tr.get_put {α : Type _} (t : Tr α) (i j : Nat) (v d : α) : (t.put i v).get j d = if i = j ∧ t.has j = true then v else t.get j d := by
  by_cases e : i = j
  · subst e
    by_cases hh : t.has i = true
    · rw [if_pos ⟨rfl, hh⟩, Tr.get_put_same t i v d hh]
    · have hf : t.has i = false := by simpa using hh
      rw [if_neg (fun c => hh c.2), Tr.get_out _ _ _ (by rw [Tr.has_put]; exact hf), Tr.get_out _ _ _ hf]
  · rw [if_neg (fun c => e c.1), Tr.get_put_other t i j v d e]
theorem Tr.putK_eq {α : Type _} : ∀ (t : Tr α) (i : Nat) (v : α) (k : Tr α → Prop), t.putK i v k = k (t.put i v)
  | .nil, _, _, _ => rfl
  | .node x l r, 0, v, k => rfl
  | .node x l r, i + 1, v, k => by
    simp only [Tr.putK, Tr.put]
    rcases Tr.half i with ⟨e, -⟩ | ⟨e, -⟩ <;> rw [e] <;> simp only [Tr.putK_eq]
/-- two of one shape -/
def Tr.like {α : Type _} : Tr α → Tr α → Prop
  | .nil, .nil => True
  | .node _ l r, .node _ l' r' => l.like l' ∧ r.like r'
  | _, _ => False
theorem Tr.like_refl {α : Type _} : ∀ (t : Tr α), t.like t
  | .nil => trivial
  | .node _ l r => ⟨l.like_refl, r.like_refl⟩
theorem Tr.like_trans {α : Type _} : ∀ {a b c : Tr α}, a.like b → b.like c → a.like c
  | .nil, .nil, .nil, _, _ => trivial
  | .node _ _ _, .node _ _ _, .node _ _ _, h, k => ⟨Tr.like_trans h.1 k.1, Tr.like_trans h.2 k.2⟩
theorem Tr.like_symm {α : Type _} : ∀ {a b : Tr α}, a.like b → b.like a
  | .nil, .nil, _ => trivial
  | .node _ _ _, .node _ _ _, h => ⟨Tr.like_symm h.1, Tr.like_symm h.2⟩
theorem Tr.like_put {α : Type _} : ∀ (t : Tr α) (i : Nat) (v : α), (t.put i v).like t
  | .nil, _, _ => trivial
  | .node x l r, 0, v => ⟨l.like_refl, r.like_refl⟩
  | .node x l r, i + 1, v => by
    simp only [Tr.put]
    rcases Tr.half i with ⟨e, -⟩ | ⟨e, -⟩ <;> rw [e]
    · exact ⟨Tr.like_put l _ v, r.like_refl⟩
    · exact ⟨l.like_refl, Tr.like_put r _ v⟩
theorem Tr.ext {α : Type _} (d : α) : ∀ {a b : Tr α}, a.like b → (∀ j, a.has j = true → a.get j d = b.get j d) → a = b
  | .nil, .nil, _, _ => rfl
  | .node x l r, .node y l' r', h, hj => by
    have h0 : x = y := hj 0 rfl
    have hl : l = l' := Tr.ext d h.1 fun j hh => by
      have e : Nat.mod (2 * j) 2 = 0 := by show (2 * j) % 2 = 0; omega
      have e2 : Nat.div (2 * j) 2 = j := by show (2 * j) / 2 = j; omega
      have := hj (2 * j + 1) (by simp only [Tr.has]; rw [e, e2]; exact hh)
      simp only [Tr.get] at this
      rw [e, e2] at this
      exact this
    have hr : r = r' := Tr.ext d h.2 fun j hh => by
      have e : Nat.mod (2 * j + 1) 2 = 1 := by show (2 * j + 1) % 2 = 1; omega
      have e2 : Nat.div (2 * j + 1) 2 = j := by show (2 * j + 1) / 2 = j; omega
      have := hj (2 * j + 1 + 1) (by simp only [Tr.has]; rw [e, e2]; exact hh)
      simp only [Tr.get] at this
      rw [e, e2] at this
      exact this
    rw [h0, hl, hr]
def setD {α : Type _} (d : Option Nat) (v : α) (fr : Tr α) : Tr α := match d with
  | some d => fr.put d v
  | none => fr
theorem setK_eq {α : Type _} (d : Option Nat) (v : α) (fr : Tr α) (k : Tr α → Prop) : setK d v fr k = k (setD d v fr) := by
  cases d with
  | none => rfl
  | some d => simp [setK, setD, Tr.putK_eq]
theorem Tr.list_length {α : Type _} (t : Tr α) (d : α) : ∀ (n i : Nat), (t.list d n i).length = n
  | 0, _ => rfl
  | n + 1, i => by simp [Tr.list, Tr.list_length t d n (i + 1)]
theorem Tr.list_at {α : Type _} (t : Tr α) (d : α) : ∀ (n i j : Nat), j < n → at' (t.list d n i) j d = t.get (i + j) d
  | n + 1, i, 0, _ => rfl
  | n + 1, i, j + 1, h => by
    simp only [Tr.list, at']
    rw [Tr.list_at t d n (i + 1) j (by omega), show i + 1 + j = i + (j + 1) by omega]
theorem force_eq (x : SV) (k : SV → Prop) : force x k = k x := by cases x <;> rfl
theorem forceL_eq : ∀ (l : List SV) (k : List SV → Prop), forceL l k = k l
  | [], _ => rfl
  | x :: xs, k => by simp [forceL, force_eq, forceL_eq xs]
theorem fldK_elim : ∀ {l : List (Nat × Nat)} {f : Nat} {k : Nat → Nat → Prop}, fldK l f k → ∃ q u, l[f]? = some (q, u) ∧ k q u
  | [], _, _, h => h.elim
  | (o, t) :: _, 0, _, h => ⟨o, t, rfl, h⟩
  | _ :: r, f + 1, _, h => by simpa using fldK_elim (l := r) h
theorem tiK_elim {α : Type _} : ∀ {l : List (Nat × α)} {n : Nat} {f : α → Prop}, tiK l n f → ∃ v, (n, v) ∈ l ∧ f v
  | [], _, _, h => h.elim
  | (k, v) :: r, n, f, h => by
    unfold tiK at h
    cases e : Nat.beq k n with
    | true => rw [e] at h; exact ⟨v, by rw [Nat.eq_of_beq_eq_true e]; exact List.mem_cons_self, h⟩
    | false => rw [e] at h; obtain ⟨u, hu, hf⟩ := tiK_elim (l := r) h; exact ⟨u, List.mem_cons_of_mem _ hu, hf⟩
theorem takeN_eq {α : Type _} : ∀ (n : Nat) (l : List α), takeN n l = l.take n
  | 0, _ => by simp [takeN]
  | _ + 1, [] => by simp [takeN]
  | n + 1, x :: xs => by simp [takeN, takeN_eq n xs]
theorem dropN_eq {α : Type _} : ∀ (n : Nat) (l : List α), dropN n l = l.drop n
  | 0, _ => by simp [dropN]
  | _ + 1, [] => by simp [dropN]
  | n + 1, x :: xs => by simp [dropN, dropN_eq n xs]
theorem at'_takeDrop {α : Type _} (l : List α) (n o j : Nat) (d : α) (h : j < n) : at' (takeN n (dropN o l)) j d = at' l (o + j) d := by
  rw [takeN_eq, dropN_eq]
  by_cases hl : o + j < l.length
  · rw [at'_get _ _ _ (by simp; omega), at'_get _ _ _ hl]
    simp
  · rw [at'_ge _ _ _ (by simp; omega), at'_ge _ _ _ (by omega)]
theorem takeDrop_length {α : Type _} (l : List α) (n o : Nat) (h : o + n ≤ l.length) : (takeN n (dropN o l)).length = n := by
  rw [takeN_eq, dropN_eq]; simp; try omega
theorem over_length {α : Type _} : ∀ (o : Nat) (xs ys : List α), (over o xs ys).length = ys.length
  | _, _, [] => by unfold over; rfl
  | 0, [], y :: ys => by unfold over; rfl
  | 0, x :: xs, y :: ys => by unfold over; simp [over_length 0 xs ys]
  | o + 1, xs, y :: ys => by unfold over; simp [over_length o xs ys]
theorem at'_over {α : Type _} (d : α) : ∀ (o : Nat) (xs ys : List α) (j : Nat), o + xs.length ≤ ys.length →
    at' (over o xs ys) j d = if o ≤ j ∧ j < o + xs.length then at' xs (j - o) d else at' ys j d
  | _, xs, [], j, h => by
    have : xs = [] := by cases xs <;> simp_all
    subst this
    unfold over
    rw [if_neg (by simp)]
  | 0, [], y :: ys, j, h => by unfold over; rw [if_neg (by simp)]
  | 0, x :: xs, y :: ys, j, h => by
    unfold over
    cases j with
    | zero => simp [at']
    | succ j =>
      have := at'_over d 0 xs ys j (by simpa using h)
      simp only [at', this, List.length_cons]
      by_cases hj : j < xs.length
      · rw [if_pos ⟨by omega, by omega⟩, if_pos ⟨by omega, by omega⟩]; simp [at']
      · rw [if_neg (by omega), if_neg (by omega)]
  | o + 1, xs, y :: ys, j, h => by
    unfold over
    cases j with
    | zero => rw [if_neg (by omega)]; rfl
    | succ j =>
      have := at'_over d o xs ys j (by simp at h; omega)
      simp only [at', this]
      by_cases hj : o ≤ j ∧ j < o + xs.length
      · rw [if_pos hj, if_pos (by omega), show j + 1 - (o + 1) = j - o by omega]
      · rw [if_neg hj, if_neg (by omega)]

/-! ### 2. Types and contracts -/
def isAggD : TypeDesc → Bool
  | .struct _ | .array _ _ => true
  | _ => false
structure TOk (P : Program) (t : Nat) (ti : TI) : Prop where
  und : ∃ d, P.underlying t = some d ∧ isAggD d = ti.agg ∧ (ti.slice = true → d = .slice ti.elem) ∧ (ti.str = true → d = .string) ∧ (ti.bool = true → d = .bool) ∧
    ∀ (f q u : Nat), ti.flds[f]? = some (q, u) → ∃ (fs : Array Go.Field) (fd : Go.Field), d = .struct fs ∧ fs[f]? = some fd ∧ fd.offset = q ∧ fd.type = u ∧ ∃ i, P.info? u = some i ∧ i.size ≠ 0
  one : ti.agg = false → 0 < ti.size
  all : ti.flds ≠ [] → ∃ fs : Array Go.Field, P.underlying t = some (.struct fs) ∧ fs.size = ti.flds.length
  inf : ∃ i, P.info? t = some i ∧ i.size = ti.size ∧ i.bytes = ti.bytes ∧ (ti.zero ≠ [] → ∃ z, i.zero = some z ∧ z.cells.toList = ti.zero)
  int : ∀ k, ti.int = some k → P.underlying t = some (.int k)

/-- What a contract says of the function in memory. -/
def CtrSound (P : Program) (g : Nat) (c : Ctr) : Prop :=
  (∃ fn, P.funcs[g]? = some fn ∧ (fn.name == "runtime.NumGoroutine") = false ∧ fn.body.isNone = false) ∧
  ∀ (x : c.A) (H : HM) (w : World) (vs : Array Value) (id : Nat), c.dom x →
    (∀ b o v, H b o = some v → w.cell? ⟨b, o, none⟩ = some v) →
    vs.size = (c.enc x).length → (∀ j, j < (c.enc x).length → G H noB noT (at' (c.enc x) j .junk) (vs.getD j undef)) →
    Calls P g vs w fun e w' => ∃ v H' T', e = .returned v ∧ Below w.heap.size w w' ∧ HLe H H' ∧ (∀ b o, b < w.heap.size → H' b o = H b o) ∧
      (∀ b o i, T' b o = some i → w.heap.size ≤ b ∧ (w'.cell? ⟨b, o, none⟩).isSome = true ∧ w'.frozen? ⟨b, o, none⟩ = false) ∧
      (∀ b o v, H' b o = some v → w'.cell? ⟨b, o, none⟩ = some v ∧ T' b o = none) ∧ G H' noB T' (c.res x id) v

/-- A struct type's equality is right. -/
def EqSound (P : Program) (t : Nat) (c : EqC) : Prop :=
  ∀ (u v : c.A) (H : HM) (β : BM) (T : TM) (xs ys : Array Value) (w : World) (x y : Operand), xs.size = (c.cs u).length → ys.size = (c.cs v).length →
    (∀ j, j < (c.cs u).length → G H β T (at' (c.cs u) j .junk) (xs.getD j undef)) → (∀ j, j < (c.cs v).length → G H β T (at' (c.cs v) j .junk) (ys.getD j undef)) →
    (∀ op, (eqGuard op t x y (.agg xs) (.agg ys)).run P w = .ok () w) ∧ (Op.equal t (.agg xs) (.agg ys)).run P w = .ok (c.eq u v) w

structure EnvOk (P : Program) (E : Env) : Prop where
  eqs : ∀ t c, E.eqs t = some c → EqSound P t c
  ty : ∀ t ti, (t, ti) ∈ E.ty → TOk P t ti
  ctr : ∀ g c, E.ctr g = some c → CtrSound P g c

/-! ### 3. Frames -/
section
variable {H : HM} {β : BM} {T : TM} {a : Act}

theorem G.undef : G H β T (.val undef) undef := .val _
theorem at'_map_val (cs : Array Value) (j : Nat) (h : j < cs.size) : at' (cs.toList.map SV.val) j .junk = .val (cs.getD j Go.undef) := by
  rw [at'_get _ _ _ (by simpa using h)]
  simp [h]
theorem ev_G {s : ASt} (h : FR H β T s.fr a) (x : Operand) : G H β T (ev s x) (a.eval x) := by
  cases x with
  | tmp t => exact h.val t
  | const v =>
    cases v with
    | bool b => cases b with | true => exact .tt | false => exact .ff
    | agg cs => exact .agg _ cs (by simp) fun j hj => by rw [at'_map_val cs j (by simpa using hj)]; exact .val _
    | _ => exact .val _
  | global g => exact .junk _
  | func f => exact .fn f [] #[] rfl (fun j hj => by simp at hj)
theorem FR.put' {fr : Tr SV} (h : FR H β T fr a) {v : SV} {u : Value} (hv : G H β T v u) (d : Option Nat) : FR H β T (setD d v fr) (a.put d u) := by
  cases d with
  | none => exact h
  | some d =>
    refine ⟨fun j hj => ?_, by simpa [Act.put] using h.defers, ?_⟩
    · rw [show setD (some d) v fr = fr.put d v from rfl, Tr.has_put] at hj
      simpa [Act.put] using h.size j hj
    intro j
    rw [show setD (some d) v fr = fr.put d v from rfl]
    rw [Tr.get_put]
    show G H β T _ ((a.tmps.setIfInBounds d u).getD j Go.undef)
    by_cases e : d = j
    · subst e
      by_cases hh : fr.has d = true
      · rw [if_pos ⟨rfl, hh⟩]
        simp [Array.getD, h.size d hh]
        exact hv
      · rw [if_neg (fun c => hh c.2), Tr.get_out fr d _ (by simpa using hh)]
        exact .junk _
    · rw [if_neg (fun c => e c.1)]
      have hg : (a.tmps.setIfInBounds d u).getD j Go.undef = a.tmps.getD j Go.undef := by
        simp [Array.getD_eq_getD_getElem?, Array.getElem?_setIfInBounds_ne e]
      rw [hg]; exact h.val j
theorem FR.mono {H' : HM} {β' : BM} {T' : TM} {fr : Tr SV} (h : FR H β T fr a) (hH : HLe H H') (hb : BLe β β') (ht : TLe T T') : FR H' β' T' fr a :=
  ⟨h.size, h.defers, fun j => (h.val j).mono hH hb ht⟩
end

/-! ### 4. Memory -/
section
variable {P : Program} {M : Nat → Prop} {w0 w : World} {H0 H : HM} {β : BM} {T : TM} {bx : Tr (Option (List SV))}

theorem Keeps.alloc (h : Keeps M w0 w) (o : Obj) : Keeps M w0 (w.alloc o) :=
  ⟨h.os, h.tape, h.output, by have := h.size; simp; omega, fun k hk hm => by rw [← h.block k hk hm, Below.heap_alloc _ _ _ (Nat.lt_of_lt_of_le hk h.size)]⟩
theorem Keeps.setCell (h : Keeps M w0 w) (p : Addr) (hp : Mine M w0 p.block) (v : Value) : Keeps M w0 (w.setCell p v) :=
  ⟨h.os, h.tape, h.output, by simpa using h.size, fun k hk hm => by
    rw [← h.block k hk hm]
    refine Below.heap_setCell _ _ _ _ fun e => ?_
    cases hp with
    | inl hq => exact hm (e ▸ hq)
    | inr hq => omega⟩
theorem Keeps.setCells (h : Keeps M w0 w) (b : Nat) (hp : Mine M w0 b) : ∀ (vs : List Value) (o : Nat) {w : World}, Keeps M w0 w → Keeps M w0 (w.setCells b o vs)
  | [], _, _, k => k
  | v :: r, o, w, k => Keeps.setCells h b hp r (o + 1) (k.setCell ⟨b, o, none⟩ hp v)
theorem Keeps.drew (h : Keeps M w0 w) : Keeps M w0 w.drew := ⟨h.os, h.tape, h.output, h.size, h.block⟩
theorem Keeps.below {w' : World} (h : Keeps M w0 w) (k : Below w.heap.size w w') : Keeps M w0 w' :=
  ⟨k.os.trans h.os, k.tape.trans h.tape, k.output.trans h.output, Nat.le_trans h.size k.size, fun i hi hm => (k.block i (Nat.lt_of_lt_of_le hi h.size)).trans (h.block i hi hm)⟩

theorem W.drew (h : W M w0 H0 H β T bx w) : W M w0 H0 H β T bx w.drew :=
  ⟨h.lies, h.box, h.bβ, h.inj, h.tail, h.keep.drew, h.ext, h.fresh⟩
theorem Rel.drew {s : ASt} {a : Act} (h : Rel M w0 H0 s a w) : Rel M w0 H0 s a w.drew := by
  obtain ⟨H, β, T, hf, hw⟩ := h
  exact ⟨H, β, T, hf, hw.drew⟩

def bset (β : BM) (d k : Nat) : BM := fun i => if i = d then some k else β i

theorem cell_lt {w : World} {b o : Nat} {v : Value} (h : w.cell? ⟨b, o, none⟩ = some v) : b < w.heap.size := World.block_lt_of_cell? w _ h
theorem cell_alloc {w : World} {o : Obj} {b j : Nat} {v : Value} (h : w.cell? ⟨b, j, none⟩ = some v) : (w.alloc o).cell? ⟨b, j, none⟩ = some v := by
  rw [World.cell?_alloc_lt _ _ _ (cell_lt h)]; exact h
theorem frozen_alloc {w : World} {o : Obj} {b j : Nat} (hb : b < w.heap.size) : (w.alloc o).frozen? ⟨b, j, none⟩ = w.frozen? ⟨b, j, none⟩ :=
  World.frozen?_alloc_old _ _ _ (by simp; omega)

theorem no_new (h : W M w0 H0 H β T bx w) (j : Nat) : H w.heap.size j = none ∧ T w.heap.size j = none := by
  constructor
  · cases e : H w.heap.size j with
    | none => rfl
    | some v => have := cell_lt (h.lies _ _ _ e).1; omega
  · cases e : T w.heap.size j with
    | none => rfl
    | some i =>
      obtain ⟨_, hc, _⟩ := h.tail _ _ _ e
      obtain ⟨v, hv⟩ := Option.isSome_iff_exists.1 hc
      have := cell_lt hv
      omega
theorem Tr.get_in {α : Type _} : ∀ (t : Tr α) (j : Nat) (d d' : α), t.has j = true → t.get j d = t.get j d'
  | .node v l r, 0, _, _, _ => rfl
  | .node v l r, j + 1, d, d', h => by
    simp only [Tr.has, Tr.get] at h ⊢
    rcases Tr.half j with ⟨e, -⟩ | ⟨e, -⟩
    · rw [e] at h ⊢; exact Tr.get_in l _ d d' h
    · rw [e] at h ⊢; exact Tr.get_in r _ d d' h
theorem at'_none {bx : Tr (Option (List SV))} {d : Nat} (h : bx.get d (some []) = none) : bx.has d = true ∧ bx.get d none = none := by
  cases hl : bx.has d with
  | true => exact ⟨rfl, by rw [Tr.get_in bx d _ (some []) hl]; exact h⟩
  | false => rw [Tr.get_out _ _ _ hl] at h; cases h
theorem W.heap_eq {w' : World} (h : W M w0 H0 H β T bx w) (hk : Keeps M w0 w') (hc : ∀ b o v, w.cell? ⟨b, o, none⟩ = some v → w'.cell? ⟨b, o, none⟩ = some v)
    (hf : ∀ b o, b < w.heap.size → w'.frozen? ⟨b, o, none⟩ = w.frozen? ⟨b, o, none⟩) (hs : w.heap.size ≤ w'.heap.size) : W M w0 H0 H β T bx w' := by
  refine ⟨fun b o v e => ⟨hc _ _ _ (h.lies b o v e).1, (h.lies b o v e).2⟩, ?_, fun id k e => ⟨Nat.lt_of_lt_of_le (h.bβ id k e).1 hs, (h.bβ id k e).2⟩, h.inj, ?_, hk, h.ext, h.fresh⟩
  · intro id cs e
    obtain ⟨k, hk, hm, hj⟩ := h.box id cs e
    refine ⟨k, hk, hm, fun j hlt => ?_⟩
    obtain ⟨a1, a2, a3, v, a4, a5⟩ := hj j hlt
    exact ⟨a1, a2, by rw [hf _ _ (cell_lt a4)]; exact a3, v, hc _ _ _ a4, a5⟩
  · intro b o id e
    obtain ⟨a1, a2, a3⟩ := h.tail b o id e
    obtain ⟨v, hv⟩ := Option.isSome_iff_exists.1 a2
    exact ⟨a1, by rw [hc _ _ _ hv]; rfl, by rw [hf _ _ (cell_lt hv)]; exact a3⟩
theorem W.mono (h : W M w0 H0 H β T bx w) {β' : BM} (hb : BLe β β') : ∀ id cs, bx.get id none = some cs → ∃ k, β id = some k ∧ Mine M w0 k ∧ ∀ j, j < cs.length →
    H k j = none ∧ T k j = none ∧ w.frozen? ⟨k, j, none⟩ = false ∧ ∃ v, w.cell? ⟨k, j, none⟩ = some v ∧ G H β' T (at' cs j .junk) v := by
  intro id cs e
  obtain ⟨k, hk, hm, hj⟩ := h.box id cs e
  refine ⟨k, hk, hm, fun j hlt => ?_⟩
  obtain ⟨a1, a2, a3, v, a4, a5⟩ := hj j hlt
  exact ⟨a1, a2, a3, v, a4, a5.mono (.refl _) hb (.refl _)⟩
/-- a box is made -/
theorem W.newBox (h : W M w0 H0 H β T bx w) {d : Nat} (hd0 : bx.get d (some []) = none) {cs : List SV} {vs : Array Value} {t : TypeId}
    (hn : vs.size = cs.length) (hg : ∀ j, j < cs.length → G H β T (at' cs j .junk) (vs.getD j undef)) :
    BLe β (bset β d w.heap.size) ∧ W M w0 H0 H (bset β d w.heap.size) T (bx.put d (some cs)) (w.alloc (.cells vs t)) := by
  obtain ⟨hdl, hd⟩ := at'_none hd0
  have hβd : β d = none := by
    cases e : β d with
    | none => rfl
    | some k => obtain ⟨_, cs, hc⟩ := h.bβ d k e; rw [hd] at hc; cases hc
  have hle : BLe β (bset β d w.heap.size) := fun b k e => by
    unfold bset
    by_cases hb : b = d
    · subst hb; rw [hβd] at e; cases e
    · rw [if_neg hb]; exact e
  have h' := h.heap_eq (w' := w.alloc (.cells vs t)) (h.keep.alloc _) (fun b o v e => cell_alloc e) (fun b o hb => frozen_alloc hb) (by simp)
  refine ⟨hle, h'.lies, ?_, ?_, ?_, h'.tail, h'.keep, h.ext, h.fresh⟩
  · intro id cs' e
    rw [Tr.get_put] at e
    by_cases hid : d = id
    · subst hid
      rw [if_pos ⟨rfl, hdl⟩] at e
      obtain rfl := Option.some.inj e
      refine ⟨w.heap.size, by simp [bset], .inr h.keep.size, fun j hj => ?_⟩
      obtain ⟨a1, a2⟩ := no_new h j
      refine ⟨a1, a2, by simp, vs.getD j undef, ?_, (hg j hj).mono (.refl _) hle (.refl _)⟩
      rw [World.cell?_alloc_new]
      simp [show j < vs.size by omega]
    · rw [if_neg (fun c => hid c.1)] at e
      obtain ⟨k, hk, rest⟩ := h'.mono hle id cs' e
      exact ⟨k, hle _ _ hk, rest⟩
  · intro id k e
    unfold bset at e
    by_cases hid : id = d
    · subst hid
      rw [if_pos rfl] at e
      obtain rfl := Option.some.inj e
      exact ⟨by simp, cs, by rw [Tr.get_put, if_pos ⟨rfl, hdl⟩]⟩
    · rw [if_neg hid] at e
      obtain ⟨a1, cs', a2⟩ := h'.bβ id k e
      exact ⟨a1, cs', by rw [Tr.get_put, if_neg (fun c => hid c.1.symm)]; exact a2⟩
  · intro i j k ei ej
    unfold bset at ei ej
    by_cases hi : i = d <;> by_cases hj : j = d
    · rw [hi, hj]
    · rw [if_pos hi] at ei; rw [if_neg hj] at ej
      obtain rfl := Option.some.inj ei
      have := (h.bβ _ _ ej).1; omega
    · rw [if_neg hi] at ei; rw [if_pos hj] at ej
      obtain rfl := Option.some.inj ej
      have := (h.bβ _ _ ei).1; omega
    · rw [if_neg hi] at ei; rw [if_neg hj] at ej
      exact h.inj _ _ _ ei ej
/-- cells of a box are written -/
theorem W.setBox (h : W M w0 H0 H β T bx w) {b : Nat} {cs : List SV} (hb : bx.get b none = some cs) {k : Nat} (hk : β b = some k) {o : Nat} {xs : List SV} {vs : List Value}
    (hn : vs.length = xs.length) (ho : o + xs.length ≤ cs.length) (hg : ∀ j, j < xs.length → G H β T (at' xs j .junk) (vs.getD j undef)) :
    W M w0 H0 H β T (bx.put b (some (over o xs cs))) (w.setCells k o vs) := by
  obtain ⟨k', hk', hm, hj⟩ := h.box b cs hb
  obtain rfl : k = k' := Option.some.inj (hk.symm.trans hk')
  have hbl : bx.has b = true := by
    cases hl : bx.has b with
    | true => rfl
    | false => rw [Tr.get_out _ _ _ hl] at hb; cases hb
  have hout : ∀ (c q : Nat), (c = k → q < o ∨ o + vs.length ≤ q) → (w.setCells k o vs).cell? ⟨c, q, none⟩ = w.cell? ⟨c, q, none⟩ :=
    fun c q hq => World.cell?_setCells_out k vs o w ⟨c, q, none⟩ (fun e _ => hq e)
  have hin : ∀ j (hj : j < vs.length), (w.setCells k o vs).cell? ⟨k, o + j, none⟩ = some vs[j] :=
    fun j hjl => World.cell?_setCells_in k vs o w (fun i hi => by obtain ⟨_, _, _, v, hv, _⟩ := hj (o + i) (by omega); rw [hv]; rfl) j hjl
  have hsz : (w.setCells k o vs).heap.size = w.heap.size := by
    have aux : ∀ (vs : List Value) (o : Nat) (w : World), (w.setCells k o vs).heap.size = w.heap.size := by
      intro vs
      induction vs with
      | nil => intro o w; rfl
      | cons v r ih => intro o w; simp [World.setCells, ih]
    exact aux _ _ _
  refine ⟨?_, ?_, ?_, h.inj, ?_, Keeps.setCells h.keep k hm vs o h.keep, h.ext, h.fresh⟩
  · intro c q v e
    refine ⟨?_, (h.lies c q v e).2⟩
    rw [hout c q ?_]
    · exact (h.lies c q v e).1
    · intro hc
      subst hc
      by_cases hq : q < cs.length
      · have := (hj q hq).1; rw [e] at this; cases this
      · right; omega
  · intro id cs' e
    rw [Tr.get_put] at e
    by_cases hid : b = id
    · subst hid
      rw [if_pos ⟨rfl, hbl⟩] at e
      obtain rfl := Option.some.inj e
      refine ⟨k, hk, hm, fun j hjl => ?_⟩
      rw [over_length] at hjl
      obtain ⟨a1, a2, a3, v, a4, a5⟩ := hj j hjl
      refine ⟨a1, a2, by rw [World.frozen?_setCells]; exact a3, ?_⟩
      rw [at'_over _ _ _ _ _ ho]
      by_cases hr : o ≤ j ∧ j < o + xs.length
      · rw [if_pos hr]
        have hlt : j - o < vs.length := by omega
        refine ⟨vs[j - o], ?_, ?_⟩
        · have := hin (j - o) hlt
          rwa [show o + (j - o) = j by omega] at this
        · have := hg (j - o) (by omega)
          simpa [hlt] using this
      · rw [if_neg hr]
        exact ⟨v, by rw [hout k j (fun _ => by omega)]; exact a4, a5⟩
    · rw [if_neg (fun c => hid c.1)] at e
      obtain ⟨k2, hk2, hm2, hj2⟩ := h.box id cs' e
      have hne : k2 ≠ k := fun c => hid (h.inj _ _ _ hk (c ▸ hk2))
      refine ⟨k2, hk2, hm2, fun j hjl => ?_⟩
      obtain ⟨a1, a2, a3, v, a4, a5⟩ := hj2 j hjl
      exact ⟨a1, a2, by rw [World.frozen?_setCells]; exact a3, v, by rw [hout k2 j (fun c => absurd c hne)]; exact a4, a5⟩
  · intro id k2 e
    obtain ⟨a1, cs', a2⟩ := h.bβ id k2 e
    refine ⟨by rw [hsz]; exact a1, ?_⟩
    rw [Tr.get_put]
    by_cases hid : b = id
    · exact ⟨_, if_pos ⟨hid, hid ▸ hbl⟩⟩
    · rw [if_neg (fun c => hid c.1)]; exact ⟨cs', a2⟩
  · intro c q id e
    obtain ⟨a1, a2, a3⟩ := h.tail c q id e
    refine ⟨a1, ?_, by rw [World.frozen?_setCells]; exact a3⟩
    rw [hout c q ?_]
    · exact a2
    · intro hc
      subst hc
      by_cases hq : q < cs.length
      · have := (hj q hq).2.1; rw [e] at this; cases this
      · right; omega
end
end Go.Proofs.Ytobadhbdhomjnaa.Ax
