/- The logic's operations are right: lists, frames, and what each operation does in memory. -/
import Derived.Test.YtimhbimpaiiceaaDoorA2
set_option linter.unusedVariables false
set_option linter.unusedSimpArgs false
namespace Go.Proofs.YtimhbimpaiiceaaDoor.Ax
open Go Go.RowKit

/-! ### 1. Lists -/
theorem at'_ge {α : Type _} : ∀ (l : List α) (j : Nat) (d : α), l.length ≤ j → at' l j d = d
  | [], _, _, _ => rfl
  | x :: xs, 0, d, h => by simp at h
  | x :: xs, j + 1, d, h => at'_ge xs j d (by simpa using h)
theorem at'_get {α : Type _} : ∀ (l : List α) (j : Nat) (d : α) (h : j < l.length), at' l j d = l[j]
  | [], j, _, h => by simp at h
  | x :: xs, 0, d, h => rfl
  | x :: xs, j + 1, d, h => by simpa [at'] using at'_get xs j d (by simpa using h)
theorem Tr.half (i : Nat) : (Nat.mod i 2 = 0 ∧ i = 2 * Nat.div i 2) ∨ (Nat.mod i 2 = 1 ∧ i = 2 * Nat.div i 2 + 1) := by
  show (i % 2 = 0 ∧ i = 2 * (i / 2)) ∨ (i % 2 = 1 ∧ i = 2 * (i / 2) + 1)
  omega
theorem Tr.get_out {α : Type _} : ∀ (t : Tr α) (j : Nat) (d : α), t.has j = false → t.get j d = d
  | .nil, _, _, _ => rfl
  | .node v l r, 0, d, h => by simp [Tr.has] at h
  | .node v l r, j + 1, d, h => by
    simp only [Tr.has, Tr.get] at h ⊢
    rcases Tr.half j with ⟨e, -⟩ | ⟨e, -⟩
    · rw [e] at h ⊢; exact Tr.get_out l _ d h
    · rw [e] at h ⊢; exact Tr.get_out r _ d h
theorem Tr.has_put {α : Type _} : ∀ (t : Tr α) (i j : Nat) (v : α), (t.put i v).has j = t.has j
  | .nil, _, _, _ => rfl
  | .node x l r, 0, j, v => by cases j <;> rfl
  | .node x l r, i + 1, j, v => by
    simp only [Tr.put]
    rcases Tr.half i with ⟨e, -⟩ | ⟨e, -⟩ <;> rw [e] <;> cases j with
    | zero => rfl
    | succ j =>
      simp only [Tr.has]
      rcases Tr.half j with ⟨e', -⟩ | ⟨e', -⟩ <;> rw [e'] <;> first | exact Tr.has_put _ _ _ _ | rfl
theorem Tr.get_put_same {α : Type _} : ∀ (t : Tr α) (i : Nat) (v d : α), t.has i = true → (t.put i v).get i d = v
  | .node x l r, 0, v, d, _ => rfl
  | .node x l r, i + 1, v, d, h => by
    simp only [Tr.put, Tr.has] at h ⊢
    rcases Tr.half i with ⟨e, -⟩ | ⟨e, -⟩ <;> rw [e] at h ⊢ <;> simp only [Tr.get] <;> rw [e]
    · exact Tr.get_put_same l _ v d h
    · exact Tr.get_put_same r _ v d h
theorem Tr.get_put_other {α : Type _} : ∀ (t : Tr α) (i j : Nat) (v d : α), i ≠ j → (t.put i v).get j d = t.get j d
  | .nil, _, _, _, _, _ => rfl
  | .node x l r, 0, 0, v, d, h => absurd rfl h
  | .node x l r, 0, j + 1, v, d, h => rfl
  | .node x l r, i + 1, 0, v, d, h => by
    simp only [Tr.put]
    rcases Tr.half i with ⟨e, -⟩ | ⟨e, -⟩ <;> rw [e] <;> rfl
  | .node x l r, i + 1, j + 1, v, d, h => by
    simp only [Tr.put]
    rcases Tr.half i with ⟨e, ei⟩ | ⟨e, ei⟩ <;> rw [e] <;> simp only [Tr.get] <;> rcases Tr.half j with ⟨e', ej⟩ | ⟨e', ej⟩ <;> rw [e']
    · exact Tr.get_put_other l (Nat.div i 2) (Nat.div j 2) v d (by omega)
    · rfl
    · rfl
    · exact Tr.get_put_other r (Nat.div i 2) (Nat.div j 2) v d (by omega)
theorem Tr.get_put {α : Type _} (t : Tr α) (i j : Nat) (v d : α) : (t.put i v).get j d = if i = j ∧ t.has j = true then v else t.get j d := by
  by_cases e : i = j
  · subst e
    by_cases hh : t.has i = true
    · rw [if_pos ⟨rfl, hh⟩, Tr.get_put_same t i v d hh]
    · have hf : t.has i = false := by simpa using hh
      rw [if_neg (fun c => hh c.2), Tr.get_out _ _ _ (by rw [Tr.has_put]; exact hf), Tr.get_out _ _ _ hf]
  · rw [if_neg (fun c => e c.1), Tr.get_put_other t i j v d e]
theorem Tr.putK_eq {α : Type _} : ∀ (t : Tr α) (i : Nat) (v : α) (k : Tr α → Prop), t.putK i v k = k (t.put i v)
  | .nil, _, _, _ => rfl
  | .node x l r, 0, v, k => rfl
  | .node x l r, i + 1, v, k => by
    simp only [Tr.putK, Tr.put]
    rcases Tr.half i with ⟨e, -⟩ | ⟨e, -⟩ <;> rw [e] <;> simp only [Tr.putK_eq]
/-- two of one shape -/
def Tr.like {α : Type _} : Tr α → Tr α → Prop
  | .nil, .nil => True
  | .node _ l r, .node _ l' r' => l.like l' ∧ r.like r'
  | _, _ => False
theorem Tr.like_refl {α : Type _} : ∀ (t : Tr α), t.like t
  | .nil => trivial
  | .node _ l r => ⟨l.like_refl, r.like_refl⟩
theorem Tr.like_trans {α : Type _} : ∀ {a b c : Tr α}, a.like b → b.like c → a.like c
  | .nil, .nil, .nil, _, _ => trivial
  | .node _ _ _, .node _ _ _, .node _ _ _, h, k => ⟨Tr.like_trans h.1 k.1, Tr.like_trans h.2 k.2⟩
theorem Tr.like_symm {α : Type _} : ∀ {a b : Tr α}, a.like b → b.like a
  | .nil, .nil, _ => trivial
  | .node _ _ _, .node _ _ _, h => ⟨Tr.like_symm h.1, Tr.like_symm h.2⟩
theorem Tr.like_put {α : Type _} : ∀ (t : Tr α) (i : Nat) (v : α), (t.put i v).like t
  | .nil, _, _ => trivial
  | .node x l r, 0, v => ⟨l.like_refl, r.like_refl⟩
  | .node x l r, i + 1, v => by
    simp only [Tr.put]
    rcases Tr.half i with ⟨e, -⟩ | ⟨e, -⟩ <;> rw [e]
    · exact ⟨Tr.like_put l _ v, r.like_refl⟩
    · exact ⟨l.like_refl, Tr.like_put r _ v⟩
theorem Tr.ext {α : Type _} (d : α) : ∀ {a b : Tr α}, a.like b → (∀ j, a.has j = true → a.get j d = b.get j d) → a = b
  | .nil, .nil, _, _ => rfl
  | .node x l r, .node y l' r', h, hj => by
    have h0 : x = y := hj 0 rfl
    have hl : l = l' := Tr.ext d h.1 fun j hh => by
      have e : Nat.mod (2 * j) 2 = 0 := by show (2 * j) % 2 = 0; omega
      have e2 : Nat.div (2 * j) 2 = j := by show (2 * j) / 2 = j; omega
      have := hj (2 * j + 1) (by simp only [Tr.has]; rw [e, e2]; exact hh)
      simp only [Tr.get] at this
      rw [e, e2] at this
      exact this
    have hr : r = r' := Tr.ext d h.2 fun j hh => by
      have e : Nat.mod (2 * j + 1) 2 = 1 := by show (2 * j + 1) % 2 = 1; omega
      have e2 : Nat.div (2 * j + 1) 2 = j := by show (2 * j + 1) / 2 = j; omega
      have := hj (2 * j + 1 + 1) (by simp only [Tr.has]; rw [e, e2]; exact hh)
      simp only [Tr.get] at this
      rw [e, e2] at this
      exact this
    rw [h0, hl, hr]
def setD {α : Type _} (d : Option Nat) (v : α) (fr : Tr α) : Tr α := match d with
  | some d => fr.put d v
  | none => fr
theorem setK_eq {α : Type _} (d : Option Nat) (v : α) (fr : Tr α) (k : Tr α → Prop) : setK d v fr k = k (setD d v fr) := by
  cases d with
  | none => rfl
  | some d => simp [setK, setD, Tr.putK_eq]
theorem Tr.list_length {α : Type _} (t : Tr α) (d : α) : ∀ (n i : Nat), (t.list d n i).length = n
  | 0, _ => rfl
  | n + 1, i => by simp [Tr.list, Tr.list_length t d n (i + 1)]
theorem Tr.list_at {α : Type _} (t : Tr α) (d : α) : ∀ (n i j : Nat), j < n → at' (t.list d n i) j d = t.get (i + j) d
  | n + 1, i, 0, _ => rfl
  | n + 1, i, j + 1, h => by
    simp only [Tr.list, at']
    rw [Tr.list_at t d n (i + 1) j (by omega), show i + 1 + j = i + (j + 1) by omega]
theorem force_eq (x : SV) (k : SV → Prop) : force x k = k x := by cases x <;> rfl
theorem forceL_eq : ∀ (l : List SV) (k : List SV → Prop), forceL l k = k l
  | [], _ => rfl
  | x :: xs, k => by simp [forceL, force_eq, forceL_eq xs]
theorem fldK_elim : ∀ {l : List (Nat × Nat)} {f : Nat} {k : Nat → Nat → Prop}, fldK l f k → ∃ q u, l[f]? = some (q, u) ∧ k q u
  | [], _, _, h => h.elim
  | (o, t) :: _, 0, _, h => ⟨o, t, rfl, h⟩
  | _ :: r, f + 1, _, h => by simpa using fldK_elim (l := r) h
theorem tiK_elim {α : Type _} : ∀ {l : List (Nat × α)} {n : Nat} {f : α → Prop}, tiK l n f → ∃ v, (n, v) ∈ l ∧ f v
  | [], _, _, h => h.elim
  | (k, v) :: r, n, f, h => by
    unfold tiK at h
    cases e : Nat.beq k n with
    | true => rw [e] at h; exact ⟨v, by rw [Nat.eq_of_beq_eq_true e]; exact List.mem_cons_self, h⟩
    | false => rw [e] at h; obtain ⟨u, hu, hf⟩ := tiK_elim (l := r) h; exact ⟨u, List.mem_cons_of_mem _ hu, hf⟩
theorem takeN_eq {α : Type _} : ∀ (n : Nat) (l : List α), takeN n l = l.take n
  | 0, _ => by simp [takeN]
  | _ + 1, [] => by simp [takeN]
  | n + 1, x :: xs => by simp [takeN, takeN_eq n xs]
theorem dropN_eq {α : Type _} : ∀ (n : Nat) (l : List α), dropN n l = l.drop n
  | 0, _ => by simp [dropN]
  | _ + 1, [] => by simp [dropN]
  | n + 1, x :: xs => by simp [dropN, dropN_eq n xs]
theorem at'_takeDrop {α : Type _} (l : List α) (n o j : Nat) (d : α) (h : j < n) : at' (takeN n (dropN o l)) j d = at' l (o + j) d := by
  rw [takeN_eq, dropN_eq]
  by_cases hl : o + j < l.length
  · rw [at'_get _ _ _ (by simp; omega), at'_get _ _ _ hl]
    simp
  · rw [at'_ge _ _ _ (by simp; omega), at'_ge _ _ _ (by omega)]
theorem takeDrop_length {α : Type _} (l : List α) (n o : Nat) (h : o + n ≤ l.length) : (takeN n (dropN o l)).length = n := by
  rw [takeN_eq, dropN_eq]; simp; try omega
theorem over_length {α : Type _} : ∀ (o : Nat) (xs ys : List α), (over o xs ys).length = ys.length
  | _, _, [] => by unfold over; rfl
  | 0, [], y :: ys => by unfold over; rfl
  | 0, x :: xs, y :: ys => by unfold over; simp [over_length 0 xs ys]
  | o + 1, xs, y :: ys => by unfold over; simp [over_length o xs ys]
theorem at'_over {α : Type _} (d : α) : ∀ (o : Nat) (xs ys : List α) (j : Nat), o + xs.length ≤ ys.length →
    at' (over o xs ys) j d = if o ≤ j ∧ j < o + xs.length then at' xs (j - o) d else at' ys j d
  | _, xs, [], j, h => by
    have : xs = [] := by cases xs <;> simp_all
    subst this
    unfold over
    rw [if_neg (by simp)]
  | 0, [], y :: ys, j, h => by unfold over; rw [if_neg (by simp)]
  | 0, x :: xs, y :: ys, j, h => by
    unfold over
    cases j with
    | zero => simp [at']
    | succ j =>
      have := at'_over d 0 xs ys j (by simpa using h)
      simp only [at', this, List.length_cons]
      by_cases hj : j < xs.length
      · rw [if_pos ⟨by omega, by omega⟩, if_pos ⟨by omega, by omega⟩]; simp [at']
      · rw [if_neg (by omega), if_neg (by omega)]
  | o + 1, xs, y :: ys, j, h => by
    unfold over
    cases j with
    | zero => rw [if_neg (by omega)]; rfl
    | succ j =>
      have := at'_over d o xs ys j (by simp at h; omega)
      simp only [at', this]
      by_cases hj : o ≤ j ∧ j < o + xs.length
      · rw [if_pos hj, if_pos (by omega), show j + 1 - (o + 1) = j - o by omega]
      · rw [if_neg hj, if_neg (by omega)]

/-! ### 2. Types and contracts -/
def isAggD : TypeDesc → Bool
  | .struct _ | .array _ _ => true
  | _ => false
structure TOk (P : Program) (t : Nat) (ti : TI) : Prop where
  und : ∃ d, P.underlying t = some d ∧ isAggD d = ti.agg ∧ (ti.slice = true → d = .slice ti.elem) ∧ (ti.str = true → d = .string) ∧ (ti.bool = true → d = .bool) ∧
    ∀ (f q u : Nat), ti.flds[f]? = some (q, u) → ∃ (fs : Array Go.Field) (fd : Go.Field), d = .struct fs ∧ fs[f]? = some fd ∧ fd.offset = q ∧ fd.type = u ∧ ∃ i, P.info? u = some i ∧ i.size ≠ 0
  one : ti.agg = false → 0 < ti.size
  all : ti.flds ≠ [] → ∃ fs : Array Go.Field, P.underlying t = some (.struct fs) ∧ fs.size = ti.flds.length
  inf : ∃ i, P.info? t = some i ∧ i.size = ti.size ∧ i.bytes = ti.bytes ∧ (ti.zero ≠ [] → ∃ z, i.zero = some z ∧ z.cells.toList = ti.zero)
  int : ∀ k, ti.int = some k → P.underlying t = some (.int k)
  ifc : ti.iface = true → ∃ ms, P.underlying t = some (.interface ms)

/-- no block has another length -/
def Shaped (w0 w : World) : Prop := w0.heap.size ≤ w.heap.size ∧ ∀ k, k < w0.heap.size → w.shape? k = w0.shape? k
theorem Shaped.trans {a b c : World} (h : Shaped a b) (k : Shaped b c) : Shaped a c := ⟨Nat.le_trans h.1 k.1, fun i hi => (k.2 i (Nat.lt_of_lt_of_le hi h.1)).trans (h.2 i hi)⟩
theorem Keeps.shaped {M : BM} {w0 w : World} (h : Keeps M w0 w) : Shaped w0 w := ⟨h.size, h.shape⟩
def Sealed (H : HM) (w : World) : Prop := ∀ b o v, H b o = some v → w.cell? ⟨b, o, none⟩ = some v
/-- the cells that a call has sealed in blocks of its own -/
def newH (w : World) (H' : HM) : HM := fun b o => if b < w.heap.size then none else H' b o
theorem newH_le (w : World) (H' : HM) : HLe (newH w H') H' := fun b o v e => by
  unfold newH at e
  split at e
  · cases e
  · exact e
/-- What a contract says of the function in memory. -/
def CtrSound (P : Program) (g : Nat) (c : Ctr) : Prop :=
  (∃ fn, P.funcs[g]? = some fn ∧ (fn.name == "runtime.NumGoroutine") = false ∧ fn.body.isNone = false) ∧
  ∀ (x : c.A) (H : HM) (w : World) (vs : Array Value) (id : Nat), c.dom x →
    (∀ b o v, H b o = some v → w.cell? ⟨b, o, none⟩ = some v) → (∀ w', Sealed H w' → Shaped w w' → c.gl w') →
    vs.size = (c.enc x).length → (∀ j, j < (c.enc x).length → G H noB noT (at' (c.enc x) j .junk) (vs.getD j undef)) →
    Calls P g vs w fun e w' => ∃ v H' T', e = .returned v ∧ Below w.heap.size w w' ∧ HLe H H' ∧ (∀ b o, b < w.heap.size → H' b o = H b o) ∧
      (∀ b o i, T' b o = some i → w.heap.size ≤ b ∧ (w'.cell? ⟨b, o, none⟩).isSome = true ∧ w'.frozen? ⟨b, o, none⟩ = false) ∧
      (∀ b o v, H' b o = some v → w'.cell? ⟨b, o, none⟩ = some v ∧ T' b o = none) ∧ G H' noB T' (c.res x id) v ∧ (c.fresh = true → G (newH w H') noB T' (c.res x id) v)

/-- cells of variables by their numbers from 1000 on -/
def insT (v : Option (List SV)) : Nat → Nat → Tr (Option (List SV)) → Tr (Option (List SV))
  | 0, _, t => t
  | f + 1, i, .nil => match i with
    | 0 => .node v .nil .nil
    | i + 1 => match Nat.mod i 2 with
      | 0 => .node none (insT v f (Nat.div i 2) .nil) .nil
      | _ => .node none .nil (insT v f (Nat.div i 2) .nil)
  | f + 1, i, .node x l r => match i with
    | 0 => .node v l r
    | i + 1 => match Nat.mod i 2 with
      | 0 => .node x (insT v f (Nat.div i 2) l) r
      | _ => .node x l (insT v f (Nat.div i 2) r)
theorem insT_get (v : Option (List SV)) : ∀ (f i : Nat) (t : Tr (Option (List SV))) (j : Nat), i + 1 < 2 ^ f → (insT v f i t).get j none = if i = j then v else t.get j none
  | 0, i, t, j, h => by simp at h
  | f + 1, 0, .nil, 0, h => rfl
  | f + 1, 0, .nil, j + 1, h => by
    simp only [insT, Tr.get]
    rcases Tr.half j with ⟨e, -⟩ | ⟨e, -⟩ <;> rw [e] <;> simp
  | f + 1, 0, .node x l r, 0, h => rfl
  | f + 1, 0, .node x l r, j + 1, h => by simp [insT, Tr.get]
  | f + 1, i + 1, .nil, j, h => by
    have hd : Nat.div i 2 = i / 2 := rfl
    have hf : Nat.div i 2 + 1 < 2 ^ f := by rw [Nat.pow_succ] at h; omega
    have ih := fun j => insT_get v f (Nat.div i 2) .nil j hf
    cases j with
    | zero => simp only [insT]; rcases Tr.half i with ⟨e, -⟩ | ⟨e, -⟩ <;> rw [e] <;> rfl
    | succ j =>
      simp only [insT]
      rcases Tr.half i with ⟨e, ei⟩ | ⟨e, ei⟩ <;> rw [e] <;> simp only [Tr.get] <;> rcases Tr.half j with ⟨e2, ej⟩ | ⟨e2, ej⟩ <;> rw [e2] <;> simp only
      · rw [ih]
        by_cases c : Nat.div i 2 = Nat.div j 2
        · rw [if_pos c, if_pos (by omega)]
        · rw [if_neg c, if_neg (by omega)]; rfl
      · rw [if_neg (by omega)]
      · rw [if_neg (by omega)]
      · rw [ih]
        by_cases c : Nat.div i 2 = Nat.div j 2
        · rw [if_pos c, if_pos (by omega)]
        · rw [if_neg c, if_neg (by omega)]; rfl
  | f + 1, i + 1, .node x l r, j, h => by
    have hd : Nat.div i 2 = i / 2 := rfl
    have hf : Nat.div i 2 + 1 < 2 ^ f := by rw [Nat.pow_succ] at h; omega
    cases j with
    | zero => simp only [insT]; rcases Tr.half i with ⟨e, -⟩ | ⟨e, -⟩ <;> rw [e] <;> rfl
    | succ j =>
      simp only [insT]
      rcases Tr.half i with ⟨e, ei⟩ | ⟨e, ei⟩ <;> rw [e] <;> simp only [Tr.get] <;> rcases Tr.half j with ⟨e2, ej⟩ | ⟨e2, ej⟩ <;> rw [e2] <;> simp only
      · rw [insT_get v f _ l _ hf]
        by_cases c : Nat.div i 2 = Nat.div j 2
        · rw [if_pos c, if_pos (by omega)]
        · rw [if_neg c, if_neg (by omega)]
      · rw [if_neg (by omega)]
      · rw [if_neg (by omega)]
      · rw [insT_get v f _ r _ hf]
        by_cases c : Nat.div i 2 = Nat.div j 2
        · rw [if_pos c, if_pos (by omega)]
        · rw [if_neg c, if_neg (by omega)]
def treeOf : Nat → List (List SV) → Tr (Option (List SV)) → Tr (Option (List SV))
  | _, [], t => t
  | i, cs :: r, t => treeOf (i + 1) r (insT (some cs) 13 i t)

theorem treeOf_get : ∀ (l : List (List SV)) (i : Nat) (t : Tr (Option (List SV))) (j : Nat), i + l.length < 8000 →
    (treeOf i l t).get j none = if i ≤ j ∧ j < i + l.length then at' (l.map some) (j - i) none else t.get j none
  | [], i, t, j, h => by rw [if_neg (by simp)]; rfl
  | cs :: r, i, t, j, h => by
    have h : i + (r.length + 1) < 8000 := h
    show (treeOf (i + 1) r (insT (some cs) 13 i t)).get j none = _
    rw [treeOf_get r (i + 1) _ j (by omega), insT_get _ 13 i t j (by omega)]
    by_cases c : i + 1 ≤ j ∧ j < i + 1 + r.length
    · rw [if_pos c, if_pos (by simp; omega)]
      obtain ⟨q, rfl⟩ : ∃ q, j = i + 1 + q := ⟨j - (i + 1), by omega⟩
      rw [show i + 1 + q - (i + 1) = q by omega, show i + 1 + q - i = q + 1 by omega]
      rfl
    · rw [if_neg c]
      by_cases e : i = j
      · rw [if_pos e, if_pos (by simp; omega), e, Nat.sub_self]; rfl
      · rw [if_neg e, if_neg (by simp; omega)]

/-- the variables that were handed in, and what was made -/
def newM (β β' : BM) (m : Nat) : BM := fun i => if i < m then β i else β' i
/-- .. and the blocks whose room was handed in -/
def mB (β rb : BM) : BM := fun i => if 10000 ≤ i then rb i else β i
theorem mB_some {β rb : BM} {i k : Nat} (h : mB β rb i = some k) : (i < 10000 ∧ β i = some k) ∨ (10000 ≤ i ∧ rb i = some k) := by
  unfold mB at h
  by_cases c : 10000 ≤ i
  · rw [if_pos c] at h; exact .inr ⟨c, h⟩
  · rw [if_neg c] at h; exact .inl ⟨by omega, h⟩
theorem mB_lo {β rb : BM} {i : Nat} (h : i < 10000) : mB β rb i = β i := if_neg (by omega)
theorem mB_hi {β rb : BM} {i : Nat} (h : 10000 ≤ i) : mB β rb i = rb i := if_pos h
/-- What a contract says of a function that changes variables. rb: the blocks that hold room of the rows in these variables. -/
def CtrBSound (P : Program) (g : Nat) (c : CtrB) : Prop :=
  (∃ fn, P.funcs[g]? = some fn ∧ (fn.name == "runtime.NumGoroutine") = false ∧ fn.body.isNone = false) ∧
  ∀ (x : c.A) (H : HM) (β : BM) (T : TM) (rb : BM) (w : World) (vs : Array Value) (id : Nat), c.dom x → (∀ i j k, β i = some k → rb j = some k → False) →
    W (mB β rb) w H H β T (treeOf 1000 (c.pre x) .nil) w → (∀ w', Sealed H w' → Shaped w w' → c.gl w') →
    vs.size = (c.enc x).length → (∀ j, j < (c.enc x).length → G H β T (at' (c.enc x) j .junk) (vs.getD j undef)) →
    Calls P g vs w fun e w' => ∃ v H' β' T', e = .returned v ∧ W (mB (newM β β' (1000 + (c.pre x).length)) rb) w H H' β' T' (treeOf 1000 (c.post x id) .nil) w' ∧ (∀ i k, β i = some k → β' i = some k) ∧
      (∀ i k, β i = none → β' i = some k → w.heap.size ≤ k) ∧ (∀ i, 1000 ≤ i → i < 1000 + (c.pre x).length → β i = none → β' i = none) ∧ G H' β' T' (c.res x id) v

/-- A struct type's equality is right. -/
def EqSound (P : Program) (t : Nat) (c : EqC) : Prop :=
  ∀ (u v : c.A) (H : HM) (β : BM) (T : TM) (xs ys : Array Value) (w : World) (x y : Operand), xs.size = (c.cs u).length → ys.size = (c.cs v).length →
    (∀ j, j < (c.cs u).length → G H β T (at' (c.cs u) j .junk) (xs.getD j undef)) → (∀ j, j < (c.cs v).length → G H β T (at' (c.cs v) j .junk) (ys.getD j undef)) →
    (∀ op, (eqGuard op t x y (.agg xs) (.agg ys)).run P w = .ok () w) ∧ (Op.equal t (.agg xs) (.agg ys)).run P w = .ok (c.eq u v) w

structure EnvOk (P : Program) (E : Env) : Prop where
  eqs : ∀ t c, E.eqs t = some c → EqSound P t c
  ty : ∀ t ti, (t, ti) ∈ E.ty → TOk P t ti
  ctr : ∀ g c, E.ctr g = some c → CtrSound P g c
  ctrB : ∀ g c, E.ctrB g = some c → CtrBSound P g c
  glC : ∀ g c, E.ctr g = some c → ∀ w, E.gl w → c.gl w
  glB : ∀ g c, E.ctrB g = some c → ∀ w, E.gl w → c.gl w
/-- what is known of the package's variables holds in every world with these sealed cells -/
class GlOk (E : Env) (H0 : HM) (w0 : World) : Prop where
  gl : ∀ w, Sealed H0 w → Shaped w0 w → E.gl w
theorem GlOk.ctr {P : Program} {E : Env} {M : BM} {w0 w : World} {H0 H : HM} [hg : GlOk E H0 w0] (hE : EnvOk P E) (hH : HLe H0 H) (hk : Keeps M w0 w) {g : Nat} {c : Ctr} (hc : E.ctr g = some c) : ∀ w', Sealed H w' → Shaped w w' → c.gl w' :=
  fun w' hs hsh => hE.glC g c hc w' (hg.gl w' (fun b o v e => hs b o v (hH b o v e)) (hk.shaped.trans hsh))
theorem GlOk.ctrB {P : Program} {E : Env} {M : BM} {w0 w : World} {H0 H : HM} [hg : GlOk E H0 w0] (hE : EnvOk P E) (hH : HLe H0 H) (hk : Keeps M w0 w) {g : Nat} {c : CtrB} (hc : E.ctrB g = some c) : ∀ w', Sealed H w' → Shaped w w' → c.gl w' :=
  fun w' hs hsh => hE.glB g c hc w' (hg.gl w' (fun b o v e => hs b o v (hH b o v e)) (hk.shaped.trans hsh))

/-! ### 3. Frames -/
section
variable {H : HM} {β : BM} {T : TM} {a : Act}

theorem G.undef : G H β T (.val undef) undef := .val _
theorem at'_map_val (cs : Array Value) (j : Nat) (h : j < cs.size) : at' (cs.toList.map SV.val) j .junk = .val (cs.getD j Go.undef) := by
  rw [at'_get _ _ _ (by simpa using h)]
  simp [h]
theorem ev_G {s : ASt} (h : FR H β T s.fr a) (x : Operand) : G H β T (ev s x) (a.eval x) := by
  cases x with
  | tmp t => exact h.val t
  | const v =>
    cases v with
    | bool b => cases b with | true => exact .tt | false => exact .ff
    | agg cs => exact .agg _ cs (by simp) fun j hj => by rw [at'_map_val cs j (by simpa using hj)]; exact .val _
    | _ => exact .val _
  | global g => exact .junk _
  | func f => exact .fn f [] #[] rfl (fun j hj => by simp at hj)
theorem FR.put' {fr : Tr SV} (h : FR H β T fr a) {v : SV} {u : Value} (hv : G H β T v u) (d : Option Nat) : FR H β T (setD d v fr) (a.put d u) := by
  cases d with
  | none => exact h
  | some d =>
    refine ⟨fun j hj => ?_, by simpa [Act.put] using h.defers, ?_⟩
    · rw [show setD (some d) v fr = fr.put d v from rfl, Tr.has_put] at hj
      simpa [Act.put] using h.size j hj
    intro j
    rw [show setD (some d) v fr = fr.put d v from rfl]
    rw [Tr.get_put]
    show G H β T _ ((a.tmps.setIfInBounds d u).getD j Go.undef)
    by_cases e : d = j
    · subst e
      by_cases hh : fr.has d = true
      · rw [if_pos ⟨rfl, hh⟩]
        simp [Array.getD, h.size d hh]
        exact hv
      · rw [if_neg (fun c => hh c.2), Tr.get_out fr d _ (by simpa using hh)]
        exact .junk _
    · rw [if_neg (fun c => e c.1)]
      have hg : (a.tmps.setIfInBounds d u).getD j Go.undef = a.tmps.getD j Go.undef := by
        simp [Array.getD_eq_getD_getElem?, Array.getElem?_setIfInBounds_ne e]
      rw [hg]; exact h.val j
theorem FR.mono {H' : HM} {β' : BM} {T' : TM} {fr : Tr SV} (h : FR H β T fr a) (hH : HLe H H') (hb : BLe β β') (ht : TLe T T') : FR H' β' T' fr a :=
  ⟨h.size, h.defers, fun j => (h.val j).mono hH hb ht⟩
end

/-! ### 4. Memory -/
section
variable {P : Program} {M : BM} {w0 w : World} {H0 H : HM} {β : BM} {T : TM} {bx : Tr (Option (List SV))}

theorem shape_eq {w w' : World} {k : Nat} (h : w'.heap[k]? = w.heap[k]?) : w'.shape? k = w.shape? k := by unfold World.shape?; rw [h]
theorem Keeps.alloc (h : Keeps M w0 w) (o : Obj) : Keeps M w0 (w.alloc o) :=
  ⟨h.os, h.tape, h.output, by have := h.size; simp; omega, fun k hk hm => by rw [← h.block k hk hm, Below.heap_alloc _ _ _ (Nat.lt_of_lt_of_le hk h.size)],
    fun k hk => by rw [← h.shape k hk]; exact shape_eq (Below.heap_alloc _ _ _ (Nat.lt_of_lt_of_le hk h.size))⟩
theorem shape_setCell (w : World) (p : Addr) (v : Value) (k : Nat) : (w.setCell p v).shape? k = w.shape? k := by
  unfold World.shape? World.setCell
  simp only [Array.getElem?_modify]
  by_cases h : p.block = k
  · rw [if_pos h]
    cases w.heap[k]? with
    | none => rfl
    | some o =>
      cases o with
      | cells c e f =>
        simp only [Option.map_some]
        split <;> simp
      | _ => rfl
  · rw [if_neg h]
theorem Edge.heap {w w' : World} {k : Nat} (h : Edge w k) (e : ∀ b, b < w.heap.size → w'.heap[b]? = w.heap[b]?) (hs : w.heap.size ≤ w'.heap.size) : Edge w' k := ⟨Nat.lt_of_lt_of_le h.1 hs, fun c t lo hi q => h.2 c t lo hi (e k h.1 ▸ q)⟩
theorem Edge.setCell {w : World} {k : Nat} (h : Edge w k) (p : Addr) (v : Value) : Edge (w.setCell p v) k := by
  refine ⟨by simpa using h.1, ?_⟩
  intro c t lo hi q
  unfold World.setCell at q
  simp only [Array.getElem?_modify] at q
  by_cases hp : p.block = k
  · rw [if_pos hp] at q
    cases hk : w.heap[k]? with
    | none => rw [hk] at q; cases q
    | some o =>
      rw [hk] at q
      cases o with
      | cells c' t' f' =>
        simp only [Option.map_some, Option.some.injEq, Obj.cells.injEq] at q
        obtain ⟨q1, q2, q3⟩ := q
        subst q3
        have := h.2 c' t' lo hi (by rw [hk])
        rw [← q1]
        split <;> simpa using this
      | _ => cases q
  · rw [if_neg hp] at q
    exact h.2 c t lo hi q
theorem Edge.setCells {k : Nat} : ∀ (vs : List Value) (b o : Nat) {w : World}, Edge w k → Edge (w.setCells b o vs) k
  | [], _, _, _, h => h
  | v :: r, b, o, _, h => Edge.setCells r b (o + 1) (h.setCell ⟨b, o, none⟩ v)
theorem Edge.setCells' {k : Nat} {w : World} (h : Edge w k) (b o : Nat) (vs : List Value) : Edge (w.setCells b o vs) k := Edge.setCells vs b o h
theorem Keeps.setCell (h : Keeps M w0 w) (p : Addr) (hp : Mine M w0 p.block) (v : Value) : Keeps M w0 (w.setCell p v) :=
  ⟨h.os, h.tape, h.output, by simpa using h.size, fun k hk hm => by
    rw [← h.block k hk hm]
    refine Below.heap_setCell _ _ _ _ fun e => ?_
    cases hp with
    | inl hq => exact hm (e ▸ hq)
    | inr hq => omega, fun k hk => by rw [← h.shape k hk]; exact shape_setCell w p v k⟩
theorem Keeps.setCells (h : Keeps M w0 w) (b : Nat) (hp : Mine M w0 b) : ∀ (vs : List Value) (o : Nat) {w : World}, Keeps M w0 w → Keeps M w0 (w.setCells b o vs)
  | [], _, _, k => k
  | v :: r, o, w, k => Keeps.setCells h b hp r (o + 1) (k.setCell ⟨b, o, none⟩ hp v)
theorem Keeps.drew (h : Keeps M w0 w) : Keeps M w0 w.drew := ⟨h.os, h.tape, h.output, h.size, h.block, h.shape⟩
theorem Keeps.below {w' : World} (h : Keeps M w0 w) (k : Below w.heap.size w w') : Keeps M w0 w' :=
  ⟨k.os.trans h.os, k.tape.trans h.tape, k.output.trans h.output, Nat.le_trans h.size k.size, fun i hi hm => (k.block i (Nat.lt_of_lt_of_le hi h.size)).trans (h.block i hi hm), fun i hi => (shape_eq (k.block i (Nat.lt_of_lt_of_le hi h.size))).trans (h.shape i hi)⟩

theorem W.drew (h : W M w0 H0 H β T bx w) : W M w0 H0 H β T bx w.drew :=
  ⟨h.lies, h.box, h.bβ, h.inj, h.tail, h.sep, h.hand, h.many, h.mine, h.out, h.keep.drew, h.ext, h.fresh, h.edge⟩
theorem Rel.drew {s : ASt} {a : Act} (h : Rel M w0 H0 s a w) : Rel M w0 H0 s a w.drew := by
  obtain ⟨H, β, T, hf, hw⟩ := h
  exact ⟨H, β, T, hf, hw.drew⟩

def bset (β : BM) (d k : Nat) : BM := fun i => if i = d then some k else β i

theorem cell_lt {w : World} {b o : Nat} {v : Value} (h : w.cell? ⟨b, o, none⟩ = some v) : b < w.heap.size := World.block_lt_of_cell? w _ h
theorem cell_alloc {w : World} {o : Obj} {b j : Nat} {v : Value} (h : w.cell? ⟨b, j, none⟩ = some v) : (w.alloc o).cell? ⟨b, j, none⟩ = some v := by
  rw [World.cell?_alloc_lt _ _ _ (cell_lt h)]; exact h
theorem frozen_alloc {w : World} {o : Obj} {b j : Nat} (hb : b < w.heap.size) : (w.alloc o).frozen? ⟨b, j, none⟩ = w.frozen? ⟨b, j, none⟩ :=
  World.frozen?_alloc_old _ _ _ (by simp; omega)

theorem no_new (h : W M w0 H0 H β T bx w) (j : Nat) : H w.heap.size j = none ∧ T w.heap.size j = none := by
  constructor
  · cases e : H w.heap.size j with
    | none => rfl
    | some v => have := cell_lt (h.lies _ _ _ e).1; omega
  · cases e : T w.heap.size j with
    | none => rfl
    | some i =>
      obtain ⟨_, hc, _⟩ := h.tail _ _ _ e
      obtain ⟨v, hv⟩ := Option.isSome_iff_exists.1 hc
      have := cell_lt hv
      omega
theorem Tr.get_in {α : Type _} : ∀ (t : Tr α) (j : Nat) (d d' : α), t.has j = true → t.get j d = t.get j d'
  | .node v l r, 0, _, _, _ => rfl
  | .node v l r, j + 1, d, d', h => by
    simp only [Tr.has, Tr.get] at h ⊢
    rcases Tr.half j with ⟨e, -⟩ | ⟨e, -⟩
    · rw [e] at h ⊢; exact Tr.get_in l _ d d' h
    · rw [e] at h ⊢; exact Tr.get_in r _ d d' h
theorem at'_none {bx : Tr (Option (List SV))} {d : Nat} (h : bx.get d (some []) = none) : bx.has d = true ∧ bx.get d none = none := by
  cases hl : bx.has d with
  | true => exact ⟨rfl, by rw [Tr.get_in bx d _ (some []) hl]; exact h⟩
  | false => rw [Tr.get_out _ _ _ hl] at h; cases h
theorem W.heap_eq {w' : World} (h : W M w0 H0 H β T bx w) (hk : Keeps M w0 w') (hc : ∀ b o v, w.cell? ⟨b, o, none⟩ = some v → w'.cell? ⟨b, o, none⟩ = some v)
    (hq : ∀ b, b < w.heap.size → w'.heap[b]? = w.heap[b]?) (hs : w.heap.size ≤ w'.heap.size) : W M w0 H0 H β T bx w' := by
  have hf : ∀ b o, b < w.heap.size → w'.frozen? ⟨b, o, none⟩ = w.frozen? ⟨b, o, none⟩ := fun b o hb => by simp only [World.frozen?, hq b hb]
  refine ⟨fun b o v e => ⟨hc _ _ _ (h.lies b o v e).1, (h.lies b o v e).2⟩, ?_, fun id k e => ⟨Nat.lt_of_lt_of_le (h.bβ id k e).1 hs, (h.bβ id k e).2⟩, h.inj, ?_, h.sep, h.hand, h.many, h.mine, h.out, hk, h.ext, h.fresh, fun k e => (h.edge k e).heap hq hs⟩
  · intro id cs e hl
    obtain ⟨k, hk, hm, hj⟩ := h.box id cs e hl
    refine ⟨k, hk, hm, fun j hlt => ?_⟩
    obtain ⟨a1, a2, a3, v, a4, a5⟩ := hj j hlt
    exact ⟨a1, a2, by rw [hf _ _ (cell_lt a4)]; exact a3, v, hc _ _ _ a4, a5⟩
  · intro b o id e
    obtain ⟨a1, a2, a3⟩ := h.tail b o id e
    obtain ⟨v, hv⟩ := Option.isSome_iff_exists.1 a2
    exact ⟨a1, by rw [hc _ _ _ hv]; rfl, by rw [hf _ _ (cell_lt hv)]; exact a3⟩
theorem W.mono (h : W M w0 H0 H β T bx w) {β' : BM} (hb : BLe β β') : ∀ id cs, bx.get id none = some cs → 0 < xlen cs → ∃ k, β id = some k ∧ Mine M w0 k ∧ ∀ j, j < xlen cs →
    H k j = none ∧ T k j = none ∧ w.frozen? ⟨k, j, none⟩ = false ∧ ∃ v, w.cell? ⟨k, j, none⟩ = some v ∧ G H β' T (xat cs j) v := by
  intro id cs e hl
  obtain ⟨k, hk, hm, hj⟩ := h.box id cs e hl
  refine ⟨k, hk, hm, fun j hlt => ?_⟩
  obtain ⟨a1, a2, a3, v, a4, a5⟩ := hj j hlt
  exact ⟨a1, a2, a3, v, a4, a5.mono (.refl _) hb (.refl _)⟩
/-- a box is made -/
theorem W.newBox (h : W M w0 H0 H β T bx w) {d : Nat} (hdm : Nat.blt d 1000 = true) (hd0 : bx.get d (some []) = none) {cs : List SV} {vs : Array Value} {t : TypeId}
    (hn : xlen cs ≤ vs.size) (hg : ∀ j, j < xlen cs → G H β T (xat cs j) (vs.getD j undef))
    (hmany : ∀ X sz c d l, cs = [.many X sz c d l] → 0 < sz ∧ ∀ x, (c x).length = sz ∧ imm.imms (c x) = true ∧ allOk (c x) = true) :
    BLe β (bset β d w.heap.size) ∧ W M w0 H0 H (bset β d w.heap.size) T (bx.put d (some cs)) (w.alloc (.cells vs t)) := by
  obtain ⟨hdl, hd⟩ := at'_none hd0
  have hβd : β d = none := by
    cases e : β d with
    | none => rfl
    | some k => obtain ⟨_, cs, hc⟩ := h.bβ d k e; rw [hd] at hc; cases hc
  have hle : BLe β (bset β d w.heap.size) := fun b k e => by
    unfold bset
    by_cases hb : b = d
    · subst hb; rw [hβd] at e; cases e
    · rw [if_neg hb]; exact e
  have h' := h.heap_eq (w' := w.alloc (.cells vs t)) (h.keep.alloc _) (fun b o v e => cell_alloc e) (fun b hb => Below.heap_alloc _ _ _ hb) (by simp)
  refine ⟨hle, h'.lies, ?_, ?_, ?_, h'.tail, fun b o i e j c => ?_, fun i k e => ⟨(h.hand i k e).1, fun k' c => ?_⟩, ?_, ?_, ?_, h'.keep, h.ext, h.fresh, fun k e => ?_⟩
  · intro id cs' e hl
    rw [Tr.get_put] at e
    by_cases hid : d = id
    · subst hid
      rw [if_pos ⟨rfl, hdl⟩] at e
      obtain rfl := Option.some.inj e
      refine ⟨w.heap.size, by simp [bset], .inr h.keep.size, fun j hj => ?_⟩
      obtain ⟨a1, a2⟩ := no_new h j
      refine ⟨a1, a2, by simp, vs.getD j undef, ?_, (hg j hj).mono (.refl _) hle (.refl _)⟩
      rw [World.cell?_alloc_new]
      simp [show j < vs.size by omega]
    · rw [if_neg (fun c => hid c.1)] at e
      obtain ⟨k, hk, rest⟩ := h'.mono hle id cs' e hl
      exact ⟨k, hle _ _ hk, rest⟩
  · intro id k e
    unfold bset at e
    by_cases hid : id = d
    · subst hid
      rw [if_pos rfl] at e
      obtain rfl := Option.some.inj e
      exact ⟨by simp, cs, by rw [Tr.get_put, if_pos ⟨rfl, hdl⟩]⟩
    · rw [if_neg hid] at e
      obtain ⟨a1, cs', a2⟩ := h'.bβ id k e
      exact ⟨a1, cs', by rw [Tr.get_put, if_neg (fun c => hid c.1.symm)]; exact a2⟩
  · intro i j k ei ej
    unfold bset at ei ej
    by_cases hi : i = d <;> by_cases hj : j = d
    · rw [hi, hj]
    · rw [if_pos hi] at ei; rw [if_neg hj] at ej
      obtain rfl := Option.some.inj ei
      have := (h.bβ _ _ ej).1; omega
    · rw [if_neg hi] at ei; rw [if_pos hj] at ej
      obtain rfl := Option.some.inj ej
      have := (h.bβ _ _ ei).1; omega
    · rw [if_neg hi] at ei; rw [if_neg hj] at ej
      exact h.inj _ _ _ ei ej
  · unfold bset at c
    by_cases hj : j = d
    · rw [if_pos hj] at c
      obtain rfl := Option.some.inj c
      rw [(no_new h o).2] at e; cases e
    · rw [if_neg hj] at c; exact h.sep _ _ _ e _ c
  · unfold bset at c
    have h1 := (h.hand i k e).1
    have h2 : d < 1000 := by have := Nat.le_of_ble_eq_true hdm; omega
    rw [if_neg (by omega)] at c
    exact (h.hand i k e).2 _ c
  · intro id X sz c dd l e
    rw [Tr.get_put] at e
    by_cases hid : d = id
    · subst hid
      rw [if_pos ⟨rfl, hdl⟩] at e
      exact hmany X sz c dd l (Option.some.inj e)
    · rw [if_neg (fun c => hid c.1)] at e
      exact h.many id X sz c dd l e
  · intro id k e
    unfold bset at e
    by_cases hid : id = d
    · rw [if_pos hid] at e
      obtain rfl := Option.some.inj e
      exact ⟨.inr h.keep.size, fun _ => h.keep.size⟩
    · rw [if_neg hid] at e; exact h.mine _ _ e
  · intro i h1 h2
    unfold bset
    have h3 : d < 1000 := by have := Nat.le_of_ble_eq_true hdm; omega
    rw [if_neg (by omega)]
    exact h.out i h1 h2
  · by_cases hkd : k = w.heap.size
    · subst hkd
      refine ⟨by simp, ?_⟩
      intro c t' lo hi q
      have hq : (w.alloc (.cells vs t)).heap[w.heap.size]? = some (.cells vs t (0, 0)) := by
        show (w.heap.push _)[w.heap.size]? = _
        simp
      rw [hq] at q
      cases q
      exact .inl rfl
    · refine h'.edge k ?_
      obtain ⟨i, e | e⟩ := e
      · unfold bset at e
        by_cases hid : i = d
        · rw [if_pos hid] at e; exact absurd (Option.some.inj e).symm hkd
        · rw [if_neg hid] at e; exact ⟨i, .inl e⟩
      · exact ⟨i, .inr e⟩
theorem W.newPlain (h : W M w0 H0 H β T bx w) {d : Nat} (hdm : Nat.blt d 1000 = true) (hd0 : bx.get d (some []) = none) {cs : List SV} (hpl : plain cs = true) {vs : Array Value} {t : TypeId}
    (hn : vs.size = cs.length) (hg : ∀ j, j < cs.length → G H β T (at' cs j .junk) (vs.getD j undef)) :
    BLe β (bset β d w.heap.size) ∧ W M w0 H0 H (bset β d w.heap.size) T (bx.put d (some cs)) (w.alloc (.cells vs t)) :=
  h.newBox hdm hd0 (by rw [(xlen_plain hpl).1]; exact Nat.le_of_eq hn.symm) (fun j hj => by rw [xat_plain hpl]; exact hg j (by rw [← (xlen_plain hpl).1]; exact hj)) (fun X sz c d l e => by rw [e] at hpl; cases hpl)
theorem W.congr {bx' : Tr (Option (List SV))} (h : W M w0 H0 H β T bx w) (e : ∀ id, bx'.get id none = bx.get id none) : W M w0 H0 H β T bx' w :=
  ⟨h.lies, fun id cs c => h.box id cs (by rw [← e]; exact c), fun id k c => ⟨(h.bβ id k c).1, by rw [e]; exact (h.bβ id k c).2⟩, h.inj, h.tail, h.sep, h.hand, fun id X sz cs d l c => h.many id X sz cs d l (by rw [← e]; exact c), h.mine, h.out, h.keep, h.ext, h.fresh, h.edge⟩
/-- a row without places, without a block -/
theorem W.newEmpty (h : W M w0 H0 H β T bx w) {d : Nat} (hd0 : bx.get d (some []) = none) {X : Type} {sz : Nat} {cs : X → List SV} (e : X)
    (hs : 0 < sz ∧ ∀ x, (cs x).length = sz ∧ imm.imms (cs x) = true ∧ allOk (cs x) = true) : W M w0 H0 H β T (bx.put d (some [.many X sz cs e []])) w := by
  obtain ⟨hdl, hd⟩ := at'_none hd0
  have hget : ∀ id, (bx.put d (some [.many X sz cs e []])).get id none = if d = id then some [.many X sz cs e []] else bx.get id none := by
    intro id
    rw [Tr.get_put]
    by_cases hid : d = id
    · subst hid; rw [if_pos ⟨rfl, hdl⟩, if_pos rfl]
    · rw [if_neg (fun c => hid c.1), if_neg hid]
  refine ⟨h.lies, ?_, ?_, h.inj, h.tail, h.sep, h.hand, ?_, h.mine, h.out, h.keep, h.ext, h.fresh, h.edge⟩
  · intro id cs' c hl
    rw [hget] at c
    by_cases hid : d = id
    · rw [if_pos hid] at c
      cases c
      have : xlen [SV.many X sz cs e []] = 0 := by show ([] : List X).length * sz = 0; simp
      omega
    · rw [if_neg hid] at c; exact h.box id cs' c hl
  · intro id k c
    obtain ⟨a1, cs', a2⟩ := h.bβ id k c
    refine ⟨a1, ?_⟩
    rw [hget]
    by_cases hid : d = id
    · exact ⟨_, if_pos hid⟩
    · exact ⟨cs', by rw [if_neg hid]; exact a2⟩
  · intro id X' sz' c' d' l' c
    rw [hget] at c
    by_cases hid : d = id
    · rw [if_pos hid] at c; cases c; exact hs
    · rw [if_neg hid] at c; exact h.many _ _ _ _ _ _ c
theorem setCells_size (k : Nat) : ∀ (vs : List Value) (o : Nat) (w : World), (w.setCells k o vs).heap.size = w.heap.size := by
  intro vs
  induction vs with
  | nil => intro o w; rfl
  | cons v r ih => intro o w; simp [World.setCells, ih]
/-- cells of a variable are written -/
theorem W.write (h : W M w0 H0 H β T bx w) {b : Nat} {cs cs' : List SV} (hb : bx.get b none = some cs) {k : Nat} (hk : β b = some k) {p : Nat} {vs : List Value}
    (hp : p + vs.length ≤ xlen cs) (hl : xlen cs' = xlen cs) (hg : ∀ j, j < vs.length → G H β T (xat cs' (p + j)) (vs.getD j undef))
    (hsame : ∀ j, j < xlen cs → (j < p ∨ p + vs.length ≤ j) → ∀ v, G H β T (xat cs j) v → G H β T (xat cs' j) v)
    (hmany : ∀ X sz c d l, cs' = [.many X sz c d l] → 0 < sz ∧ ∀ x, (c x).length = sz ∧ imm.imms (c x) = true ∧ allOk (c x) = true) :
    W M w0 H0 H β T (bx.put b (some cs')) (w.setCells k p vs) := by
  have hbl : bx.has b = true := by
    cases hl : bx.has b with
    | true => rfl
    | false => rw [Tr.get_out _ _ _ hl] at hb; cases hb
  have hm2 : ∀ id X sz c d l, (bx.put b (some cs')).get id none = some [.many X sz c d l] → 0 < sz ∧ ∀ x, (c x).length = sz ∧ imm.imms (c x) = true ∧ allOk (c x) = true := by
    intro id X sz c dd l e
    rw [Tr.get_put] at e
    by_cases hid : b = id
    · subst hid
      rw [if_pos ⟨rfl, hbl⟩] at e
      exact hmany X sz c dd l (Option.some.inj e)
    · rw [if_neg (fun c => hid c.1)] at e
      exact h.many id X sz c dd l e
  have hbβ2 : ∀ id k2, β id = some k2 → k2 < w.heap.size ∧ ∃ cs, (bx.put b (some cs')).get id none = some cs := by
    intro id k2 e
    obtain ⟨a1, cs2, a2⟩ := h.bβ id k2 e
    refine ⟨a1, ?_⟩
    rw [Tr.get_put]
    by_cases hid : b = id
    · exact ⟨_, if_pos ⟨hid, hid ▸ hbl⟩⟩
    · rw [if_neg (fun c => hid c.1)]; exact ⟨cs2, a2⟩
  by_cases hz : xlen cs = 0
  · obtain rfl : vs = [] := List.eq_nil_of_length_eq_zero (by omega)
    refine ⟨h.lies, ?_, hbβ2, h.inj, h.tail, h.sep, h.hand, hm2, h.mine, h.out, h.keep, h.ext, h.fresh, h.edge⟩
    intro id cs2 e hl2
    rw [Tr.get_put] at e
    by_cases hid : b = id
    · subst hid
      rw [if_pos ⟨rfl, hbl⟩] at e
      obtain rfl := Option.some.inj e
      omega
    · rw [if_neg (fun c => hid c.1)] at e
      exact h.box id cs2 e hl2
  obtain ⟨k', hk', hm, hj⟩ := h.box b cs hb (by omega)
  obtain rfl : k = k' := Option.some.inj (hk.symm.trans hk')
  have hout : ∀ (c q : Nat), (c = k → q < p ∨ p + vs.length ≤ q) → (w.setCells k p vs).cell? ⟨c, q, none⟩ = w.cell? ⟨c, q, none⟩ :=
    fun c q hq => World.cell?_setCells_out k vs p w ⟨c, q, none⟩ (fun e _ => hq e)
  have hin : ∀ j (hj : j < vs.length), (w.setCells k p vs).cell? ⟨k, p + j, none⟩ = some vs[j] :=
    fun j hjl => World.cell?_setCells_in k vs p w (fun i hi => by obtain ⟨_, _, _, v, hv, _⟩ := hj (p + i) (by omega); rw [hv]; rfl) j hjl
  have hsz := setCells_size k vs p w
  refine ⟨?_, ?_, fun id k2 e => by rw [hsz]; exact hbβ2 id k2 e, h.inj, ?_, h.sep, h.hand, hm2, h.mine, h.out, Keeps.setCells h.keep k hm vs p h.keep, h.ext, h.fresh, fun k2 e => (h.edge k2 e).setCells' _ _ _⟩
  · intro c q v e
    refine ⟨?_, (h.lies c q v e).2⟩
    rw [hout c q ?_]
    · exact (h.lies c q v e).1
    · intro hc
      subst hc
      by_cases hq : q < xlen cs
      · have := (hj q hq).1; rw [e] at this; cases this
      · right; omega
  · intro id cs2 e hl2
    rw [Tr.get_put] at e
    by_cases hid : b = id
    · subst hid
      rw [if_pos ⟨rfl, hbl⟩] at e
      obtain rfl := Option.some.inj e
      refine ⟨k, hk, hm, fun j hjl => ?_⟩
      rw [hl] at hjl
      obtain ⟨a1, a2, a3, v, a4, a5⟩ := hj j hjl
      refine ⟨a1, a2, by rw [World.frozen?_setCells]; exact a3, ?_⟩
      by_cases hr : p ≤ j ∧ j < p + vs.length
      · have hlt : j - p < vs.length := by omega
        refine ⟨vs[j - p], ?_, ?_⟩
        · have := hin (j - p) hlt
          rwa [show p + (j - p) = j by omega] at this
        · have := hg (j - p) hlt
          rw [show p + (j - p) = j by omega] at this
          simpa [hlt] using this
      · exact ⟨v, by rw [hout k j (fun _ => by omega)]; exact a4, hsame j hjl (by omega) v a5⟩
    · rw [if_neg (fun c => hid c.1)] at e
      obtain ⟨k2, hk2, hm2, hj2⟩ := h.box id cs2 e hl2
      have hne : k2 ≠ k := fun c => hid (h.inj _ _ _ hk (c ▸ hk2))
      refine ⟨k2, hk2, hm2, fun j hjl => ?_⟩
      obtain ⟨a1, a2, a3, v, a4, a5⟩ := hj2 j hjl
      exact ⟨a1, a2, by rw [World.frozen?_setCells]; exact a3, v, by rw [hout k2 j (fun c => absurd c hne)]; exact a4, a5⟩
  · intro c q id e
    obtain ⟨a1, a2, a3⟩ := h.tail c q id e
    refine ⟨a1, ?_, by rw [World.frozen?_setCells]; exact a3⟩
    rw [hout c q ?_]
    · exact a2
    · intro hc
      subst hc
      by_cases hq : q < xlen cs
      · have := (hj q hq).2.1; rw [e] at this; cases this
      · right; omega
theorem plain_of_G {cs : List SV} (h : 0 < cs.length) (hg : ∃ v, G H β T (at' cs 0 .junk) v) : plain cs = true := by
  obtain ⟨v, hg⟩ := hg
  match cs, h with
  | c :: r, _ =>
    replace hg : G H β T c v := hg
    cases hg <;> rfl
/-- values changed one by one, rows of places left alone -/
structure MapOk (φ : SV → SV) (φs : List SV → List SV) : Prop where
  nil : φs [] = []
  cons : ∀ x xs, φs (x :: xs) = φ x :: φs xs
  many : ∀ x, (isMany [x] = true ∧ φ x = x) ∨ (isMany [x] = false ∧ isMany [φ x] = false)
theorem MapOk.length {φ : SV → SV} {φs : List SV → List SV} (h : MapOk φ φs) : ∀ l, (φs l).length = l.length
  | [] => by rw [h.nil]
  | x :: xs => by rw [h.cons, List.length_cons, List.length_cons, h.length xs]
theorem MapOk.at {φ : SV → SV} {φs : List SV → List SV} (h : MapOk φ φs) : ∀ (l : List SV) (j : Nat), j < l.length → at' (φs l) j .junk = φ (at' l j .junk)
  | x :: xs, 0, _ => by rw [h.cons]; rfl
  | x :: xs, j + 1, hj => by rw [h.cons]; exact h.at xs j (by simpa using hj)
theorem xlen_two' (a b : SV) (r : List SV) : xlen (a :: b :: r) = (a :: b :: r).length := by cases a <;> rfl
theorem xat_two' (a b : SV) (r : List SV) (j : Nat) : xat (a :: b :: r) j = at' (a :: b :: r) j .junk := by cases a <;> rfl
theorem MapOk.xlen {φ : SV → SV} {φs : List SV → List SV} (h : MapOk φ φs) : ∀ cs, Ax.xlen (φs cs) = Ax.xlen cs
  | [] => by rw [h.nil]
  | [x] => by
    rw [h.cons, h.nil]
    rcases h.many x with ⟨-, e⟩ | ⟨e1, e2⟩
    · rw [e]
    · rw [xlen_not e1, xlen_not e2]; rfl
  | a :: b :: r => by
    rw [h.cons, h.cons, xlen_two', xlen_two', List.length_cons, List.length_cons, h.length]; rfl
theorem MapOk.unmany {φ : SV → SV} {φs : List SV → List SV} (h : MapOk φ φs) {cs : List SV} {X sz c d l} (e : φs cs = [.many X sz c d l]) : cs = [.many X sz c d l] := by
  match cs with
  | [] => rw [h.nil] at e; cases e
  | [x] =>
    rw [h.cons, h.nil] at e
    have e1 : φ x = .many X sz c d l := by simpa using e
    rcases h.many x with ⟨-, e2⟩ | ⟨-, e2⟩
    · rw [← e2, e1]
    · rw [e1] at e2; cases e2
  | a :: b :: r => rw [h.cons, h.cons] at e; simp at e
theorem MapOk.isMany {φ : SV → SV} {φs : List SV → List SV} (h : MapOk φ φs) : ∀ cs, Ax.isMany (φs cs) = Ax.isMany cs
  | [] => by rw [h.nil]
  | x :: xs => by
    rw [h.cons]
    have e : ∀ (y : SV) (ys : List SV), Ax.isMany (y :: ys) = Ax.isMany [y] := fun y ys => rfl
    rw [e, e x]
    rcases h.many x with ⟨-, e⟩ | ⟨e1, e2⟩
    · rw [e]
    · rw [e1, e2]
theorem MapOk.xat {φ : SV → SV} {φs : List SV → List SV} (h : MapOk φ φs) {H' : HM} {β' : BM} {T' : TM} (hH : HLe H H') (hg : ∀ x v, G H β T x v → G H' β' T' (φ x) v) {cs : List SV} (hm : ∀ X sz c d l, cs = [.many X sz c d l] → 0 < sz ∧ ∀ x, (c x).length = sz ∧ imm.imms (c x) = true ∧ allOk (c x) = true)
    {j : Nat} (hj : j < Ax.xlen cs) {v : Value} (e : G H β T (Ax.xat cs j) v) : G H' β' T' (Ax.xat (φs cs) j) v := by
  match cs, hm, hj, e with
  | [x], hm, hj, e =>
    rw [h.cons, h.nil]
    rcases h.many x with ⟨e1, e2⟩ | ⟨e1, e2⟩
    · rw [e2]
      cases x with
      | many X sz c d l =>
        obtain ⟨h0, hx⟩ := hm _ _ _ _ _ rfl
        have e3 : Ax.xat [SV.many X sz c d l] j = at' (c (l.getD (j / sz) d)) (j % sz) .junk := rfl
        rw [e3] at e ⊢
        exact (e.imm (imms_at (hx _).2.1 _ (by rw [(hx _).1]; exact Nat.mod_lt _ h0)) noB noT).mono hH (fun _ _ c => by cases c) (fun _ _ _ c => by cases c)
      | _ => cases e1
    · rw [xat_not e1] at e
      rw [xat_not e2]
      rw [xlen_not e1] at hj
      obtain rfl : j = 0 := by simpa using hj
      exact hg _ _ e
  | a :: b :: r, hm, hj, e =>
    rw [xat_two'] at e
    rw [xlen_two'] at hj
    have := hg _ _ e
    rw [← h.at _ _ hj] at this
    rw [h.cons, h.cons, xat_two']
    rw [h.cons, h.cons] at this
    exact this
/-- cells of a box are written -/
theorem W.setBox (h : W M w0 H0 H β T bx w) {b : Nat} {cs : List SV} (hb : bx.get b none = some cs) (hpl : plain cs = true) {k : Nat} (hk : β b = some k) {o : Nat} {xs : List SV} {vs : List Value}
    (hn : vs.length = xs.length) (ho : o + xs.length ≤ cs.length) (hg : ∀ j, j < xs.length → G H β T (at' xs j .junk) (vs.getD j undef)) :
    W M w0 H0 H β T (bx.put b (some (over o xs cs))) (w.setCells k o vs) := by
  obtain ⟨e1, e0⟩ := xlen_plain hpl
  have hpl2 : plain (over o xs cs) = true := by
    refine plain_of_G (H := H) (β := β) (T := T) (by rw [over_length]; exact e0) ?_
    rw [at'_over _ _ _ _ _ ho]
    by_cases hr : o ≤ 0 ∧ 0 < o + xs.length
    · rw [if_pos hr]
      exact ⟨_, hg _ (by omega)⟩
    · rw [if_neg hr]
      obtain ⟨_, _, _, hj⟩ := h.box b cs hb (by omega)
      obtain ⟨_, _, _, v, _, a5⟩ := hj 0 (by omega)
      rw [xat_plain hpl] at a5
      exact ⟨v, a5⟩
  obtain ⟨e2, -⟩ := xlen_plain hpl2
  refine h.write hb hk (by omega) (by rw [e2, over_length, e1]) ?_ ?_ ?_
  · intro j hj
    rw [xat_plain hpl2, at'_over _ _ _ _ _ ho, if_pos (by omega), show o + j - o = j by omega]
    exact hg j (by omega)
  · intro j hj hr v hv
    rw [xat_plain hpl2, at'_over _ _ _ _ _ ho, if_neg (by omega)]
    rw [xat_plain hpl] at hv
    exact hv
  · intro X sz c d l e
    rw [e] at hpl2
    cases hpl2
end
end Go.Proofs.YtimhbimpaiiceaaDoor.Ax
