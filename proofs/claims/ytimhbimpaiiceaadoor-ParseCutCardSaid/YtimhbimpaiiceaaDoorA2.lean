/- What the logic's words mean in memory: values, sealed cells, boxes, room behind a row. -/
import Derived.Test.YtimhbimpaiiceaaDoorA1
import Derived.Below
import Derived.Laws.Sem
import Derived.Laws.World
import Derived.Laws.Cells
import Derived.Laws.IdiomCopy
import Derived.Laws.Entries
import Derived.ChangeKeysEq
set_option linter.unusedVariables false
set_option linter.unusedSimpArgs false
namespace Go.Proofs.YtimhbimpaiiceaaDoor.Ax
open Go

abbrev HM := Nat → Nat → Option Value
abbrev BM := Nat → Option Nat
abbrev TM := Nat → Nat → Option Nat
def noB : BM := fun _ => none
def noT : TM := fun _ _ => none

/-- A value in memory is what a symbolic value says. H: cells that stay as they are; β: the boxes' blocks; T: room behind rows. -/
inductive G (H : HM) : BM → TM → SV → Value → Prop
  | val {β T} (v) : G H β T (.val v) v
  | tt {β T} : G H β T .tt (.bool true)
  | ff {β T} : G H β T .ff (.bool false)
  | junk {β T} (v) : G H β T .junk v
  | nb {β T} (Q : Bool → Prop) (b) (h : Q b) : G H β T (.nb Q) (.bool b)
  | rowE {β T} (X sz cs d a c) : G H β T (.row X sz cs d []) (.slice a 0 c)
  | row {β T} (X sz cs d l b off c) (vs : Nat → Nat → Value) (hc : l.length ≤ c)
      (hz : ∀ i, i < l.length → (cs (l.getD i d)).length = sz)
      (hH : ∀ i j, i < l.length → j < sz → H b (off + i * sz + j) = some (vs i j))
      (hG : ∀ i j, i < l.length → j < sz → G H noB noT (at' (cs (l.getD i d)) j .junk) (vs i j)) :
      G H β T (.row X sz cs d l) (.slice (some ⟨b, off, none⟩) l.length c)
  | ownE {β T} (X sz cs d id a) : G H β T (.own X sz cs d [] id) (.slice a 0 0)
  | own {β T} (X sz cs d l id b off c) (vs : Nat → Nat → Value) (hc : l.length ≤ c)
      (hz : ∀ i, i < l.length → (cs (l.getD i d)).length = sz)
      (hH : ∀ i j, i < l.length → j < sz → H b (off + i * sz + j) = some (vs i j))
      (hG : ∀ i j, i < l.length → j < sz → G H noB noT (at' (cs (l.getD i d)) j .junk) (vs i j))
      (hT : ∀ o, off + l.length * sz ≤ o → o < off + c * sz → T b o = some id) :
      G H β T (.own X sz cs d l id) (.slice (some ⟨b, off, none⟩) l.length c)
  | elt {β T} (X sz cs d l i o b p) (vs : Nat → Value)
      (hz : (cs (l.getD i.toNat d)).length = sz)
      (hH : ∀ j, j < sz → H b (p + j) = some (vs j))
      (hG : ∀ j, j < sz → G H noB noT (at' (cs (l.getD i.toNat d)) j .junk) (vs j)) :
      G H β T (.elt X sz cs d l i o) (.pointer (some ⟨b, p + o, none⟩))
  | box {β T} (b o k) (h : β b = some k) : G H β T (.box b o) (.pointer (some ⟨k, o, none⟩))
  | arr {β T} (b z o n cap k c) (h : β b = some k) (hc : n ≤ c) (he : ∀ c', cap = some c' → c = c') : G H β T (.arr b z o n cap) (.slice (some ⟨k, o * z, none⟩) n c)
  | arrE {β T} (b z o a c) : G H β T (.arr b z o 0 none) (.slice a 0 c)
  | plc {β T} (b z i o k) (hi : 0 ≤ i) (h : β b = some k) : G H β T (.plc b z i o) (.pointer (some ⟨k, i.toNat * z + o, none⟩))
  | ifc {β T} (t v) : G H β T .ifc (.iface t v)
  | e0 {β T} (a) : G H β T .e0 (.slice a 0 0)
  | agg {β T} (l) (vs : Array Value) (hn : vs.size = l.length) (h : ∀ j, j < l.length → G H β T (at' l j .junk) (vs.getD j undef)) :
      G H β T (.agg l) (.agg vs)
  | tup {β T} (l) (vs : Array Value) (hn : vs.size = l.length) (h : ∀ j, j < l.length → G H β T (at' l j .junk) (vs.getD j undef)) :
      G H β T (.tup l) (.tuple vs)
  | fn {β T} (g l) (vs : Array Value) (hn : vs.size = l.length) (h : ∀ j, j < l.length → G H β T (at' l j .junk) (vs.getD j undef)) :
      G H β T (.fn g l) (.func (.func g) #[] vs)

def HLe (H H' : HM) : Prop := ∀ b o v, H b o = some v → H' b o = some v
def BLe (β β' : BM) : Prop := ∀ b k, β b = some k → β' b = some k
def TLe (T T' : TM) : Prop := ∀ b o i, T b o = some i → T' b o = some i
theorem HLe.refl (H : HM) : HLe H H := fun _ _ _ h => h
theorem HLe.trans {a b c : HM} (h : HLe a b) (k : HLe b c) : HLe a c := fun _ _ _ e => k _ _ _ (h _ _ _ e)
theorem BLe.refl (β : BM) : BLe β β := fun _ _ h => h
theorem TLe.refl (T : TM) : TLe T T := fun _ _ _ h => h

theorem G.mono {H H' : HM} (hH : HLe H H') {β : BM} {T : TM} {s : SV} {v : Value} (h : G H β T s v) :
    ∀ {β' : BM} {T' : TM}, BLe β β' → TLe T T' → G H' β' T' s v := by
  induction h with
  | val v => intros; exact .val v
  | tt => intros; exact .tt
  | ff => intros; exact .ff
  | junk v => intros; exact .junk v
  | nb Q b h => intros; exact .nb Q b h
  | rowE => intros; exact .rowE ..
  | row X sz cs d l b off c vs hc hz hh hg ih =>
    intros
    exact .row X sz cs d l b off c vs hc hz (fun i j a e => hH _ _ _ (hh i j a e)) (fun i j a e => ih i j a e (.refl _) (.refl _))
  | ownE => intros; exact .ownE ..
  | own X sz cs d l id b off c vs hc hz hh hg hT ih =>
    intro β' T' hb ht
    exact .own X sz cs d l id b off c vs hc hz (fun i j a e => hH _ _ _ (hh i j a e)) (fun i j a e => ih i j a e (.refl _) (.refl _)) (fun o a e => ht _ _ _ (hT o a e))
  | elt X sz cs d l i o b p vs hz hh hg ih =>
    intros
    exact .elt X sz cs d l i o b p vs hz (fun j e => hH _ _ _ (hh j e)) (fun j e => ih j e (.refl _) (.refl _))
  | box b o k h => intro β' T' hb ht; exact .box b o k (hb _ _ h)
  | arr b z o n cap k c h hc he => intro β' T' hb ht; exact .arr b z o n cap k c (hb _ _ h) hc he
  | arrE b z o a c => intros; exact .arrE ..
  | plc b z i o k hi h => intro β' T' hb ht; exact .plc b z i o k hi (hb _ _ h)
  | ifc t v => intros; exact .ifc t v
  | e0 a => intros; exact .e0 a
  | agg l vs hn h ih => intro β' T' hb ht; exact .agg l vs hn fun j e => ih j e hb ht
  | tup l vs hn h ih => intro β' T' hb ht; exact .tup l vs hn fun j e => ih j e hb ht
  | fn g l vs hn h ih => intro β' T' hb ht; exact .fn g l vs hn fun j e => ih j e hb ht

theorem imms_at {l : List SV} (h : imm.imms l = true) : ∀ j, j < l.length → imm (at' l j .junk) = true := by
  induction l with
  | nil => intro j hj; simp at hj
  | cons x xs ih =>
    intro j hj
    unfold imm.imms at h
    cases hx : imm x with
    | false => rw [hx] at h; simp at h
    | true =>
      rw [hx] at h
      cases j with
      | zero => exact hx
      | succ j => exact ih h j (by simpa using hj)

/-- what names no box and may not grow hangs on the sealed cells alone -/
theorem G.imm {H : HM} {β : BM} {T : TM} {s : SV} {v : Value} (h : G H β T s v) :
    imm s = true → ∀ (β' : BM) (T' : TM), G H β' T' s v := by
  induction h with
  | val v => intros; exact .val v
  | tt => intros; exact .tt
  | ff => intros; exact .ff
  | junk v => intros; exact .junk v
  | nb Q b h => intros; exact .nb Q b h
  | rowE => intros; exact .rowE ..
  | row X sz cs d l b off c vs hc hz hh hg ih =>
    intros
    exact .row X sz cs d l b off c vs hc hz hh hg
  | ownE => intro hi; simp [Ax.imm] at hi
  | own X sz cs d l id b off c vs hc hz hh hg hT ih => intro hi; simp [Ax.imm] at hi
  | elt X sz cs d l i o b p vs hz hh hg ih => intros; exact .elt X sz cs d l i o b p vs hz hh hg
  | box b o k h => intro hi; simp [Ax.imm] at hi
  | arr b z o n cap k c h hc he => intro hi; simp [Ax.imm] at hi
  | arrE b z o a c => intro hi; simp [Ax.imm] at hi
  | plc b z i o k hi' h => intro hi; simp [Ax.imm] at hi
  | ifc t v => intros; exact .ifc t v
  | e0 a => intros; exact .e0 a
  | agg l vs hn h ih => intro hi β' T'; exact .agg l vs hn fun j e => ih j e (imms_at (by simpa [Ax.imm] using hi) j e) β' T'
  | tup l vs hn h ih => intro hi β' T'; exact .tup l vs hn fun j e => ih j e (imms_at (by simpa [Ax.imm] using hi) j e) β' T'
  | fn g l vs hn h ih => intro hi β' T'; exact .fn g l vs hn fun j e => ih j e (imms_at (by simpa [Ax.imm] using hi) j e) β' T'

theorem G.sub {H : HM} {x y : SV} (hs : Sub x y) : ∀ {β : BM} {T : TM} {v : Value}, G H β T x v → G H β T y v := by
  induction hs with
  | refl x => intro β T v h; exact h
  | junk x => intros; exact .junk _
  | own X sz cs d l id =>
    intro β T v h
    cases h with
    | ownE => exact .rowE ..
    | own _ _ _ _ _ _ b off c vs hc hz hh hg hT => exact .row X sz cs d l b off c vs hc hz hh hg
  | nil X sz cs d => intro β T v h; cases h; exact .rowE ..
  | nilO X sz cs d id => intro β T v h; cases h; exact .ownE ..
  | e0 X sz cs d => intro β T v h; cases h; exact .rowE ..
  | e0O X sz cs d id => intro β T v h; cases h; exact .ownE ..
  | nil0 => intro β T v h; cases h; exact .e0 _
  | nilA b z o => intro β T v h; cases h; exact .arrE ..
  | cap b z o n c =>
    intro β T v h
    cases h with
    | arr _ _ _ _ _ k c' h hc he => exact .arr b z o n none k c' h hc (fun _ e => by cases e)
    | arrE => exact .arrE ..
  | tt => intro β T v h; cases h; exact .val _
  | ff => intro β T v h; cases h; exact .val _
  | tt' => intro β T v h; cases h; exact .tt
  | ff' => intro β T v h; cases h; exact .ff
  | agg a b hl hs ih =>
    intro β T v h
    cases h with
    | agg _ vs hn h => exact .agg b vs (hn.trans hl) fun j e => ih j (by omega) (h j (by omega))
  | tup a b hl hs ih =>
    intro β T v h
    cases h with
    | tup _ vs hn h => exact .tup b vs (hn.trans hl) fun j e => ih j (by omega) (h j (by omega))

theorem xlen_plain {cs : List SV} (h : plain cs = true) : xlen cs = cs.length ∧ 0 < cs.length := by
  match cs with
  | [] => simp [plain] at h
  | [c] => cases c <;> first | exact ⟨rfl, by simp⟩ | (simp [plain] at h)
  | a :: b :: r => exact ⟨by cases a <;> rfl, by simp⟩
theorem xat_plain {cs : List SV} (h : plain cs = true) (j : Nat) : xat cs j = at' cs j .junk := by
  match cs with
  | [] => simp [plain] at h
  | [c] => cases c <;> first | rfl | (simp [plain] at h)
  | a :: b :: r => cases a <;> rfl
theorem plain_isMany {cs : List SV} (h : plain cs = true) : isMany cs = false := by
  match cs with
  | [] => simp [plain] at h
  | c :: _ => cases c <;> first | rfl | (simp [plain] at h)
/-- what is no row of places -/
theorem xlen_not {cs : List SV} (h : isMany cs = false) : xlen cs = cs.length := by
  match cs with
  | [] => rfl
  | [c] => cases c <;> first | rfl | (simp [isMany] at h)
  | a :: b :: r => cases a <;> rfl
theorem xat_not {cs : List SV} (h : isMany cs = false) (j : Nat) : xat cs j = at' cs j .junk := by
  match cs with
  | [] => rfl
  | [c] => cases c <;> first | rfl | (simp [isMany] at h)
  | a :: b :: r => cases a <;> rfl
theorem manyK_elim {cs : List SV} {k : (T : Type) → Nat → (T → List SV) → T → List T → Prop} (h : manyK cs k) : ∃ T sz c d l, cs = [.many T sz c d l] ∧ k T sz c d l := by
  match cs with
  | [] => exact h.elim
  | [c] => cases c <;> first | exact ⟨_, _, _, _, _, rfl, h⟩ | exact h.elim
  | a :: b :: r => cases a <;> exact h.elim

/-- all but these blocks are as they were -/
structure Keeps (M : BM) (w0 w : World) : Prop where
  os : w.os = w0.os
  tape : w.tape = w0.tape
  output : w.output = w0.output
  size : w0.heap.size ≤ w.heap.size
  block : ∀ k, k < w0.heap.size → ¬ (∃ i, M i = some k) → w.heap[k]? = w0.heap[k]?
  shape : ∀ k, k < w0.heap.size → w.shape? k = w0.shape? k
def Mine (M : BM) (w0 : World) (k : Nat) : Prop := (∃ i, M i = some k) ∨ w0.heap.size ≤ k

/-- a block that holds room of one's own: a new one, or one whose room was handed in (named from 10000 on) -/
def Room (M : BM) (w0 : World) (b : Nat) : Prop := (∃ i, 10000 ≤ i ∧ M i = some b) ∨ w0.heap.size ≤ b
theorem Room.mine {M : BM} {w0 : World} {b : Nat} (h : Room M w0 b) : Mine M w0 b := h.elim (fun ⟨i, _, e⟩ => .inl ⟨i, e⟩) .inr
theorem Room.noB {w0 : World} {b : Nat} (h : Room noB w0 b) : w0.heap.size ≤ b := h.elim (fun ⟨_, _, e⟩ => by cases e) (fun e => e)
theorem noRoom {b : Nat} {X : Prop} (h : (∃ i, 10000 ≤ i ∧ Ax.noB i = some b) ∨ X) : X := h.elim (fun ⟨_, _, e⟩ => by cases e) (fun e => e)
/-- what of a block is frozen lies behind its cells -/
def Edge (w : World) (k : Nat) : Prop := k < w.heap.size ∧ ∀ c e lo hi, w.heap[k]? = some (.cells c e (lo, hi)) → lo = hi ∨ c.size ≤ lo
structure W (M : BM) (w0 : World) (H0 H : HM) (β : BM) (T : TM) (bx : Tr (Option (List SV))) (w : World) : Prop where
  lies : ∀ b o v, H b o = some v → w.cell? ⟨b, o, none⟩ = some v ∧ T b o = none
  box : ∀ id cs, bx.get id none = some cs → 0 < xlen cs → ∃ k, β id = some k ∧ Mine M w0 k ∧ ∀ j, j < xlen cs →
    H k j = none ∧ T k j = none ∧ w.frozen? ⟨k, j, none⟩ = false ∧ ∃ v, w.cell? ⟨k, j, none⟩ = some v ∧ G H β T (xat cs j) v
  bβ : ∀ id k, β id = some k → k < w.heap.size ∧ ∃ cs, bx.get id none = some cs
  inj : ∀ i j k, β i = some k → β j = some k → i = j
  tail : ∀ b o id, T b o = some id → Room M w0 b ∧ (w.cell? ⟨b, o, none⟩).isSome = true ∧ w.frozen? ⟨b, o, none⟩ = false
  sep : ∀ b o id, T b o = some id → ∀ i, β i ≠ some b
  hand : ∀ i k, M i = some k → 1000 ≤ i ∧ ∀ k', β i = some k' → k' = k
  many : ∀ id X sz cs d l, bx.get id none = some [.many X sz cs d l] → 0 < sz ∧ ∀ x, (cs x).length = sz ∧ imm.imms (cs x) = true ∧ allOk (cs x) = true
  mine : ∀ id k, β id = some k → Mine M w0 k ∧ (id < 1000 → w0.heap.size ≤ k)
  out : ∀ i, 1000 ≤ i → M i = none → β i = none
  keep : Keeps M w0 w
  ext : HLe H0 H
  fresh : ∀ b o, b < w0.heap.size → (∃ i, 10000 ≤ i ∧ M i = some b) ∨ H b o = H0 b o
  edge : ∀ k, (∃ i, β i = some k ∨ (i < 10000 ∧ M i = some k ∧ k < w0.heap.size ∧ ∀ j, 10000 ≤ j → M j ≠ some k)) → Edge w k

structure FR (H : HM) (β : BM) (T : TM) (fr : Tr SV) (a : Act) : Prop where
  size : ∀ j, fr.has j = true → j < a.tmps.size
  defers : a.defers = []
  val : ∀ j, G H β T (fr.get j .junk) (a.tmps.getD j undef)

def Rel (M : BM) (w0 : World) (H0 : HM) (s : ASt) (a : Act) (w : World) : Prop :=
  ∃ H β T, FR H β T s.fr a ∧ W M w0 H0 H β T s.bx w
end Go.Proofs.YtimhbimpaiiceaaDoor.Ax
