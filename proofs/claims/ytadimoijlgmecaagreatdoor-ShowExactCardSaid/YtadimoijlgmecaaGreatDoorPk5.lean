/- Walks and laws, part 5: Ga Gb Lg Lh Lp Sf Sg Gs Gc Gd Ge Gf Gg Gh Gi Gj Gt Sh Gk Gn Gu Si Sj Te Tf Sk Sl. -/
import Derived.Test.YtadimoijlgmecaaGreatDoorPk4
/- Layer parse: what a reader of words does, in plain Lean. -/
set_option linter.unusedVariables false
set_option linter.unusedSimpArgs false
namespace Go.Proofs.YtadimoijlgmecaaGreatDoor.Ax
open Go Go.RowKit
abbrev Ty := Int × ByteArray
structure Fld where
  name : ByteArray
  type : Ty
  static : Bool
structure Ins where
  op : Int
  n : Int
  a : ByteArray
  b : ByteArray
structure Cat where
  name : ByteArray
  fr : Int
  up : Int
  at' : Int
structure Meth where
  name : ByteArray
  static : Bool
  abs : Bool
  params : List Ty
  ret : Ty
  locals : Int
  code : List Ins
  catches : List Cat
structure Cls where
  name : ByteArray
  iface : Bool
  super : ByteArray
  ifaces : List ByteArray
  fields : List Fld
  methods : List Meth
instance : DecidableEq Fld := fun a b => decidable_of_iff (a.name = b.name ∧ a.type = b.type ∧ a.static = b.static) (by cases a; cases b; simp)
instance : DecidableEq Ins := fun a b => decidable_of_iff (a.op = b.op ∧ a.n = b.n ∧ a.a = b.a ∧ a.b = b.b) (by cases a; cases b; simp)
instance : DecidableEq Cat := fun a b => decidable_of_iff (a.name = b.name ∧ a.fr = b.fr ∧ a.up = b.up ∧ a.at' = b.at') (by cases a; cases b; simp)
instance : DecidableEq Meth := fun a b => decidable_of_iff (a.name = b.name ∧ a.static = b.static ∧ a.abs = b.abs ∧ a.params = b.params ∧ a.ret = b.ret ∧ a.locals = b.locals ∧ a.code = b.code ∧ a.catches = b.catches) (by cases a; cases b; simp)
instance : DecidableEq Cls := fun a b => decidable_of_iff (a.name = b.name ∧ a.iface = b.iface ∧ a.super = b.super ∧ a.ifaces = b.ifaces ∧ a.fields = b.fields ∧ a.methods = b.methods) (by cases a; cases b; simp)
abbrev noS : ByteArray := ⟨#[]⟩
abbrev ty0 : Ty := (0, noS)
abbrev fld0 : Fld := ⟨noS, ty0, false⟩
abbrev ins0 : Ins := ⟨0, 0, noS, noS⟩
abbrev cat0 : Cat := ⟨noS, 0, 0, 0⟩
abbrev meth0 : Meth := ⟨noS, false, false, [], ty0, 0, [], []⟩
abbrev cls0 : Cls := ⟨noS, false, noS, [], [], []⟩
def tyC (t : Ty) : List SV := [I t.1, S t.2]
def fldC (f : Fld) : List SV := [S f.name, I f.type.1, S f.type.2, B f.static]
def insC (x : Ins) : List SV := [I x.op, I x.n, S x.a, S x.b]
def catC (c : Cat) : List SV := [S c.name, I c.fr, I c.up, I c.at']
def methC (m : Meth) : List SV := [S m.name, B m.static, B m.abs, .row Ty 2 tyC ty0 m.params, I m.ret.1, S m.ret.2, I m.locals, .row Ins 4 insC ins0 m.code, .row Cat 4 catC cat0 m.catches]
def clsC (c : Cls) : List SV := [S c.name, B c.iface, S c.super, .row ByteArray 1 strC noS c.ifaces, .row Fld 4 fldC fld0 c.fields, .row Meth 9 methC meth0 c.methods]
abbrev prgR (l : List Cls) : SV := .row Cls 6 clsC cls0 l

/-- The reader: words, where the text ends, the next word, where something is wrong, what. -/
structure Rs where
  L : List Tok
  n : Int
  i : Nat
  at' : Int
  e : Int
def keptW (s : ByteArray) : Bool := keptF s.data.toList
def opV (s : ByteArray) : Int := Lib.idxOfS opsL s
def wVoid : ByteArray := ⟨#[118, 111, 105, 100]⟩
def wInt : ByteArray := ⟨#[105, 110, 116]⟩
def wLb : ByteArray := ⟨#[91]⟩
def wRb : ByteArray := ⟨#[93]⟩
def wLp : ByteArray := ⟨#[40]⟩
def wRp : ByteArray := ⟨#[41]⟩
def wLc : ByteArray := ⟨#[123]⟩
def wRc : ByteArray := ⟨#[125]⟩
def wComma : ByteArray := ⟨#[44]⟩
def wSemi : ByteArray := ⟨#[59]⟩
def wColon : ByteArray := ⟨#[58]⟩
def wLocals : ByteArray := ⟨#[108, 111, 99, 97, 108, 115]⟩
def wCatch : ByteArray := ⟨#[99, 97, 116, 99, 104]⟩
def wField : ByteArray := ⟨#[102, 105, 101, 108, 100]⟩
def wStatic : ByteArray := ⟨#[115, 116, 97, 116, 105, 99]⟩
def wMethod : ByteArray := ⟨#[109, 101, 116, 104, 111, 100]⟩
def wFunction : ByteArray := ⟨#[102, 117, 110, 99, 116, 105, 111, 110]⟩
def wClass : ByteArray := ⟨#[99, 108, 97, 115, 115]⟩
def wInterface : ByteArray := ⟨#[105, 110, 116, 101, 114, 102, 97, 99, 101]⟩
def wExtends : ByteArray := ⟨#[101, 120, 116, 101, 110, 100, 115]⟩
def wImplements : ByteArray := ⟨#[105, 109, 112, 108, 101, 109, 101, 110, 116, 115]⟩

namespace Rs
def fail (r : Rs) (e : Int) : Rs := if r.e = 0 then ⟨r.L, r.n, r.i, if r.i < r.L.length then (r.L.getD r.i tok0).2.2.2 else r.n, e⟩ else r
def next (r : Rs) : Tok := if r.e = 0 ∧ r.i < r.L.length then r.L.getD r.i tok0 else tok0
def is (r : Rs) (w : ByteArray) : Bool := decide (r.next.2.1 = w) && decide (w ≠ noS)
def step (r : Rs) : Rs := ⟨r.L, r.n, r.i + 1, r.at', r.e⟩
def take (r : Rs) (w : ByteArray) : Rs := if r.is w then r.step else r
def want (r : Rs) (w : ByteArray) : Rs := if r.is w then r.step else r.fail 4
def free (r : Rs) : Bool := decide (r.next.1 = 1) && !keptW r.next.2.1
def freshV (r : Rs) : ByteArray := if r.free then r.next.2.1 else noS
def fresh (r : Rs) : Rs := if r.free then r.step else r.fail 4
def numOk (r : Rs) (lo hi : Int) : Bool := decide (r.next.1 = 2 ∧ lo ≤ r.next.2.2.1 ∧ r.next.2.2.1 ≤ hi)
def numV (r : Rs) (lo hi : Int) : Int := if r.numOk lo hi then r.next.2.2.1 else 0
def num (r : Rs) (lo hi : Int) : Rs := if r.numOk lo hi then r.step else r.fail 4
def room (r : Rs) (many most : Int) : Rs := if many ≥ most then r.fail 2 else r
def name1 (r : Rs) (k : Int) : Rs := if r.step.free then r.step.room k 4 else r.step
def namesL : Nat → Rs → List ByteArray → List ByteArray × Rs
  | 0, r, out => (out, r)
  | f + 1, r, out => if r.is wComma then namesL f (r.name1 out.length).fresh (out ++ [(r.name1 out.length).freshV]) else (out, r)
def names (r : Rs) : List ByteArray × Rs := namesL (r.L.length + 2) r.fresh [r.freshV]
def rowR (r : Rs) : Rs := if r.is wLb then r.step.want wRb else r
def kindV (r : Rs) : Ty := if r.is wVoid then (1, noS) else if r.is wInt then (if r.step.is wLb then 4 else 2, noS) else (if r.fresh.is wLb then 5 else 3, r.freshV)
def kind (r : Rs) : Rs := if r.is wVoid then r.step else if r.is wInt then r.step.rowR else r.fresh.rowR
def param1 (r : Rs) (k : Int) : Rs := if r.step.free || r.step.is wInt || r.step.is wVoid then r.step.room k 4 else r.step
def paramsL : Nat → Rs → List Ty → List Ty × Rs
  | 0, r, out => (out, r)
  | f + 1, r, out => if r.is wComma then paramsL f (r.param1 out.length).kind (out ++ [(r.param1 out.length).kindV]) else (out, r)
def params (r : Rs) : List Ty × Rs := if (r.want wLp).is wRp then ([], (r.want wLp).step) else ((paramsL (r.L.length + 2) (r.want wLp).kind [(r.want wLp).kindV]).1, (paramsL (r.L.length + 2) (r.want wLp).kind [(r.want wLp).kindV]).2.want wRp)
def isOp (r : Rs) : Bool := decide (r.next.1 = 1) && decide (0 ≤ opV r.next.2.1)
def in1 (r : Rs) (many : Int) : Rs := (r.room many 48).want r.next.2.1
def in2 (r : Rs) (o : Int) : Rs := if (numsF o).2.2 then r.num (numsF o).1 (numsF o).2.1 else r
def in2V (r : Rs) (o : Int) : Int := if (numsF o).2.2 then r.numV (numsF o).1 (numsF o).2.1 else 0
def in3 (r : Rs) (b : Bool) : Rs := if b then r.fresh else r
def in3V (r : Rs) (b : Bool) : ByteArray := if b then r.freshV else noS
def inArgs (r : Rs) (o : Int) : Rs := ((r.in2 o).in3 (decide (namesF o > 0))).in3 (decide (namesF o > 1))
def inVal (r : Rs) (o : Int) : Ins := ⟨o, r.in2V o, (r.in2 o).in3V (decide (namesF o > 0)), ((r.in2 o).in3 (decide (namesF o > 0))).in3V (decide (namesF o > 1))⟩
def instr (r : Rs) (many : Int) : Ins × Rs := ((r.in1 many).inVal (opV r.next.2.1), ((r.in1 many).inArgs (opV r.next.2.1)).want wSemi)
def codeL : Nat → Rs → List Ins → List Ins × Rs
  | 0, r, out => (out, r)
  | f + 1, r, out => if r.isOp then codeL f (r.instr out.length).2 (out ++ [(r.instr out.length).1]) else (out, r)
def ca1 (r : Rs) (k : Int) : Rs := (r.room k 4).want wCatch
def catV (r : Rs) : Cat := ⟨r.freshV, r.fresh.numV 0 48, (r.fresh.num 0 48).numV 0 48, ((r.fresh.num 0 48).num 0 48).numV 0 48⟩
def catR (r : Rs) : Rs := (((r.fresh.num 0 48).num 0 48).num 0 48).want wSemi
def catchL : Nat → Rs → List Cat → List Cat × Rs
  | 0, r, out => (out, r)
  | f + 1, r, out => if r.is wCatch then catchL f (r.ca1 out.length).catR (out ++ [(r.ca1 out.length).catV]) else (out, r)
def bo1 (r : Rs) : Rs := ((r.want wLocals).num 0 8).want wLc
def boCode (r : Rs) : List Ins × Rs := codeL (r.L.length + 2) r.bo1 []
def boCat (r : Rs) : List Cat × Rs := catchL (r.L.length + 2) r.boCode.2 []
def body (r : Rs) : Rs := r.boCat.2.want wRc
def bodyV (r : Rs) (m : Meth) : Meth := ⟨m.name, m.static, m.abs, m.params, m.ret, (r.want wLocals).numV 0 8, r.boCode.1, r.boCat.1⟩
def mfV (r : Rs) (s : Bool) : Fld := ⟨r.freshV, (r.fresh.want wColon).kindV, s⟩
def mfR (r : Rs) : Rs := (r.fresh.want wColon).kind.want wSemi
def mm1 (r : Rs) : Rs := r.fresh.params.2.kind
def mm1V (r : Rs) (s : Bool) : Meth := ⟨r.freshV, s, r.mm1.is wSemi, r.fresh.params.1, r.fresh.params.2.kindV, 0, [], []⟩
def mmV (r : Rs) (s : Bool) : Meth := if r.mm1.is wSemi then r.mm1V s else r.mm1.bodyV (r.mm1V s)
def mmR (r : Rs) : Rs := if r.mm1.is wSemi then r.mm1.step else r.mm1.body
def memF (r : Rs) (k : Int) : Rs := (r.room k 6).want r.next.2.1
def member (r : Rs) (c : Cls) : Cls × Rs :=
  if r.next.2.1 = wField ∨ r.next.2.1 = wStatic then (⟨c.name, c.iface, c.super, c.ifaces, c.fields ++ [(r.memF c.fields.length).mfV (decide (r.next.2.1 = wStatic))], c.methods⟩, (r.memF c.fields.length).mfR)
  else if r.next.2.1 = wMethod ∨ r.next.2.1 = wFunction then (⟨c.name, c.iface, c.super, c.ifaces, c.fields, c.methods ++ [(r.memF c.methods.length).mmV (decide (r.next.2.1 = wFunction))]⟩, (r.memF c.methods.length).mmR)
  else (c, r.fail 4)
def clsL : Nat → Rs → Cls → Cls × Rs
  | 0, r, c => (c, r)
  | f + 1, r, c => if r.e = 0 then (if r.is wRc then (c, r.step) else clsL f (r.member c).2 (r.member c).1) else (c, r)
def cl1 (r : Rs) (many : Int) : Rs := (if r.is wClass || r.is wInterface then r.room many 10 else r).want (if r.is wInterface then wInterface else wClass)
/-- behind a class' name: its super, its interfaces -/
def ex1 (r : Rs) (ifc : Bool) : (ByteArray × List ByteArray) × Rs := if r.is wExtends then (if ifc then ((noS, r.step.names.1), r.step.names.2) else ((r.step.freshV, []), r.step.fresh)) else ((noS, []), r)
def ex2 (r : Rs) (ifc : Bool) (l : List ByteArray) : List ByteArray × Rs := if !ifc && r.is wImplements then r.step.names else (l, r)
def clV (r : Rs) (many : Int) : Cls := ⟨(r.cl1 many).freshV, r.is wInterface, ((r.cl1 many).fresh.ex1 (r.is wInterface)).1.1, (((r.cl1 many).fresh.ex1 (r.is wInterface)).2.ex2 (r.is wInterface) ((r.cl1 many).fresh.ex1 (r.is wInterface)).1.2).1, [], []⟩
def clR (r : Rs) (many : Int) : Rs := ((((r.cl1 many).fresh.ex1 (r.is wInterface)).2.ex2 (r.is wInterface) ((r.cl1 many).fresh.ex1 (r.is wInterface)).1.2).2).want wLc
def class' (r : Rs) (many : Int) : Cls × Rs := clsL (r.L.length + 2) (r.clR many) (r.clV many)
end Rs
end Go.Proofs.YtadimoijlgmecaaGreatDoor.Ax
/- Layer parse: a reader goes on, and ends. -/
set_option linter.unusedVariables false
set_option linter.unusedSimpArgs false
namespace Go.Proofs.YtadimoijlgmecaaGreatDoor.Ax
open Go Go.RowKit
/-- One reader behind another: no further than to the words' end; not on behind what is wrong. -/
structure Fwd (r r' : Rs) : Prop where
  L : r'.L = r.L
  n : r'.n = r.n
  le : r.i ≤ r'.i
  bd : r'.i ≤ r.L.length ∨ r'.i = r.i
  err : r.e ≠ 0 → r' = r
namespace Fwd
theorem refl (r : Rs) : Fwd r r := ⟨rfl, rfl, Nat.le_refl _, .inr rfl, fun _ => rfl⟩
theorem trans {a b c : Rs} (h : Fwd a b) (k : Fwd b c) : Fwd a c := by
  refine ⟨k.L.trans h.L, k.n.trans h.n, Nat.le_trans h.le k.le, ?_, fun he => ?_⟩
  · have h1 := h.bd; have h2 := k.bd; have h3 := h.le; have h4 := k.le
    rw [h.L] at h2
    omega
  · have := h.err he
    subst this
    exact k.err he
theorem ok {a b : Rs} (h : Fwd a b) (k : a.i ≤ a.L.length) : b.i ≤ b.L.length := by
  have := h.bd
  rw [h.L]; omega
theorem good {a b : Rs} (h : Fwd a b) (k : b.e = 0) : a.e = 0 := Classical.byContradiction fun c => c (by have := h.err c; subst this; exact k)
end Fwd
namespace Rs
theorem next_none {r : Rs} (h : ¬ (r.e = 0 ∧ r.i < r.L.length)) : r.next = tok0 := if_neg h
theorem next_some {r : Rs} (h : r.e = 0 ∧ r.i < r.L.length) : r.next = r.L.getD r.i tok0 := if_pos h
theorem is_at {r : Rs} {w : ByteArray} (h : r.is w = true) : r.e = 0 ∧ r.i < r.L.length := by
  refine Classical.byContradiction fun c => ?_
  unfold is at h
  rw [next_none c] at h
  simp at h
  exact h.2 h.1.symm
theorem free_at {r : Rs} (h : r.free = true) : r.e = 0 ∧ r.i < r.L.length := by
  refine Classical.byContradiction fun c => ?_
  unfold free at h
  rw [next_none c] at h
  simp at h
theorem fail_fwd (r : Rs) (e : Int) : Fwd r (r.fail e) := by
  unfold fail
  split
  · rename_i h; exact ⟨rfl, rfl, Nat.le_refl _, .inr rfl, fun c => absurd h c⟩
  · exact .refl _
theorem step_fwd {r : Rs} (h : r.e = 0 ∧ r.i < r.L.length) : Fwd r r.step := ⟨rfl, rfl, Nat.le_succ _, .inl h.2, fun c => absurd h.1 c⟩
theorem fresh_fwd (r : Rs) : Fwd r r.fresh := by
  unfold fresh
  split
  · exact step_fwd (free_at (by assumption))
  · exact fail_fwd _ _
theorem room_fwd (r : Rs) (a b : Int) : Fwd r (r.room a b) := by
  unfold room
  split
  · exact fail_fwd _ _
  · exact .refl _
theorem name1_fwd {r : Rs} (h : r.e = 0 ∧ r.i < r.L.length) (k : Int) : Fwd r (r.name1 k) := by
  unfold name1
  split
  · exact (step_fwd h).trans (room_fwd _ _ _)
  · exact step_fwd h
theorem on_fwd {a b c : Rs} (h : b.e ≠ 0 ∨ a.i < b.i) (hf : Fwd b c) : c.e ≠ 0 ∨ a.i < c.i := by
  rcases h with h | h
  · left
    rw [hf.err h]; exact h
  · exact .inr (Nat.lt_of_lt_of_le h hf.le)
theorem name1_on (r : Rs) (k : Int) : (r.name1 k).e ≠ 0 ∨ r.i < (r.name1 k).i := by
  have h0 : r.step.e ≠ 0 ∨ r.i < r.step.i := .inr (Nat.lt_succ_self _)
  unfold name1
  split
  · exact on_fwd h0 (room_fwd _ _ _)
  · exact h0
end Rs
end Go.Proofs.YtadimoijlgmecaaGreatDoor.Ax
/- Layer lex by the logic: words joined; rows compared. -/
set_option linter.unusedVariables false
set_option linter.unusedSimpArgs false
namespace Go.Proofs.YtadimoijlgmecaaGreatDoor.Ax
open Go Go.RowKit
theorem ba_eq (a b : ByteArray) : (a.toList == b.toList) = decide (a = b) := by
  have h : ∀ b : ByteArray, b.toList = b.data.toList := fun b => ByteArray.toList_eq b
  rw [Bool.eq_iff_iff]
  simp only [h, beq_iff_eq, decide_eq_true_eq]
  constructor
  · intro h; exact ByteArray.ext (Array.toList_inj.1 h)
  · rintro rfl; rfl
def wdS (t : Int × ByteArray × Int × Int) : List UInt8 := if t.1 = 2 then Lib.itoa t.2.2.1 else t.2.1.data.toList
def wdOk (t : Int × ByteArray × Int × Int) : Bool := (tokenF (wdS t)).2 && decide ((tokenF (wdS t)).1.1 = t.1 ∧ (tokenF (wdS t)).1.2.1 = t.2.1 ∧ (tokenF (wdS t)).1.2.2.1 = t.2.2.1)
theorem takeT {α : Type} (l : List α) (d : α) (i : Nat) (h : i < l.length) : l.take (i + 1) = l.take i ++ [l.getD i d] := by
  rw [List.take_add_one, List.getElem?_eq_getElem h]
  simp only [List.getD, List.getElem?_eq_getElem h, Option.getD_some, Option.toList_some]
theorem allT {α : Type} (l : List α) (d : α) (p : α → Bool) (i : Nat) (h : i < l.length) : (l.take (i + 1)).all p = ((l.take i).all p && p (l.getD i d)) := by
  rw [takeT l d i h, List.all_append]
  simp only [List.all_cons, List.all_nil, Bool.and_true]
theorem getT_mem {α : Type} (l : List α) (d : α) (i : Nat) (h : i < l.length) : l.getD i d ∈ l := by
  simp only [List.getD, List.getElem?_eq_getElem h, Option.getD_some]; exact List.getElem_mem h
end Go.Proofs.YtadimoijlgmecaaGreatDoor.Ax
/- Layer lex by the logic: what the statements look at. -/
set_option linter.unusedVariables false
set_option linter.unusedSimpArgs false
namespace Go.Proofs.YtadimoijlgmecaaGreatDoor.Ax
open Go Go.RowKit
theorem dlt {a b : Nat} (h : decide ((a : Int) < (b : Int)) = true) : a < b := by have := of_decide_eq_true h; omega
theorem dge {a b : Nat} (h : decide ((a : Int) < (b : Int)) = false) : b ≤ a := by have := of_decide_eq_false h; omega
theorem lneT {a b : Nat} (h : ((a : Int) != (b : Int)) = true) : a ≠ b := by simp at h; omega
theorem lneF {a b : Nat} (h : ((a : Int) != (b : Int)) = false) : a = b := by simp at h; omega
theorem ext_getD {α : Type} (d : α) : ∀ {k l : List α}, k.length = l.length → (∀ j, j < k.length → k.getD j d = l.getD j d) → k = l
  | [], [], _, _ => rfl
  | [], _ :: _, h, _ => by simp at h
  | _ :: _, [], h, _ => by simp at h
  | x :: k, y :: l, h, hj => by
    have h0 : x = y := by simpa using hj 0 (by simp)
    rw [h0, ext_getD d (k := k) (l := l) (by simpa using h) (fun j hlt => by simpa using hj (j + 1) (by simpa using hlt))]
def keepR (T : Type) [DecidableEq T] (sz : Nat) (cs : T → List SV) (d : T) : Ctr := { A := List T × List T, enc := fun x => [.row T sz cs d x.1, .row T sz cs d x.2], dom := fun x => x.1.length ≤ 4611686018427387904, res := fun x _ => B (decide (x.1 = x.2)) }
theorem w1 : (scanF [97, 45, 49, 32, 123]).2 = (0, 0) := by decide +kernel
theorem w2 : (scanF [97, 32, 48, 49]).2 = (2, 3) := by decide +kernel
theorem w3 : (scanF [97, 45, 49, 32, 123]).1.length = 3 := by decide +kernel
theorem w4 : ((scanF [97, 45, 49, 32, 123]).1.getD 1 tok0).2.2.1 = -1 := by decide +kernel
theorem w5 : ((scanF [97, 45, 49, 32, 123]).1.getD 2 tok0).2.2.2 = 4 := by decide +kernel
theorem w6 : nameF [95, 97, 49] = true := by decide +kernel
end Go.Proofs.YtadimoijlgmecaaGreatDoor.Ax
/- Words behind each other are scanned as these words. -/
set_option linter.unusedVariables false
set_option linter.unusedSimpArgs false
namespace Go.Proofs.YtadimoijlgmecaaGreatDoor.Ax
open Go Go.RowKit
theorem dd_cons (u : Nat) : ∃ b r, Lib.decDigits u = b :: r ∧ isDig b = true ∧ r.all isAl = true := by
  obtain ⟨b, r, h, hb⟩ := dd_head u
  refine ⟨b, r, h, hb, ?_⟩
  rw [List.all_eq_true]
  intro x hx
  have := dd_dig u x (by rw [h]; exact List.mem_cons_of_mem _ hx)
  simp [isAl, this]
theorem itoa_form (n : Int) : (∃ b r, Lib.itoa n = b :: r ∧ isDig b = true ∧ r.all isAl = true) ∨ (∃ b r, Lib.itoa n = 45 :: b :: r ∧ isDig b = true ∧ r.all isAl = true) := by
  unfold Lib.itoa
  split
  · obtain ⟨b, r, h, hb, hr⟩ := dd_cons n.natAbs
    exact .inr ⟨b, r, by rw [h], hb, hr⟩
  · exact .inl (dd_cons n.toNat)
theorem let_not {c : UInt8} (h : isLet c = true) : isBlank c = false ∧ isSign c = false ∧ c ≠ 45 ∧ isDig c = false ∧ isAl c = true := by
  have h' := h
  simp only [isLet, decide_eq_true_eq] at h'
  refine ⟨?_, ?_, ?_, ?_, by simp [isAl, h]⟩
  · rw [blank_eq]; simp; omega
  · rw [sign_eq]; simp; omega
  · rintro rfl; simp at h'
  · simp [isDig]; omega
theorem dig_not {c : UInt8} (h : isDig c = true) : isBlank c = false ∧ isSign c = false ∧ c ≠ 45 ∧ isLet c = false ∧ isAl c = true := by
  have h' := h
  simp only [isDig, decide_eq_true_eq] at h'
  refine ⟨?_, ?_, ?_, ?_, by simp [isAl, h]⟩
  · rw [blank_eq]; simp; omega
  · rw [sign_eq]; simp; omega
  · rintro rfl; simp at h'
  · simp [isLet]; omega
theorem name_form {l : List UInt8} : nameF l = true ↔ ∃ c r, l = c :: r ∧ isLet c = true ∧ r.all isAl = true ∧ l.length ≤ 20 := by
  constructor
  · intro h
    cases l with
    | nil => simp [nameF] at h
    | cons c r =>
      simp only [nameF, Bool.and_eq_true, decide_eq_true_eq, List.getD_cons_zero, List.all_cons] at h
      exact ⟨c, r, rfl, h.1.2, h.2.2, h.1.1.2⟩
  · rintro ⟨c, r, rfl, h1, h2, h3⟩
    simp only [nameF, Bool.and_eq_true, decide_eq_true_eq, List.getD_cons_zero, List.all_cons]
    exact ⟨⟨⟨by simp, h3⟩, h1⟩, (let_not h1).2.2.2.2, h2⟩
theorem name_not_num {l : List UInt8} (h : nameF l = true) : numF l = none := by
  rw [numF_none]
  rintro n ⟨e, -⟩
  obtain ⟨c, r, rfl, h1, -, -⟩ := name_form.1 h
  rcases itoa_form n with ⟨b, q, h2, h3, -⟩ | ⟨b, q, h2, h3, -⟩ <;> rw [e] at h2 <;> simp only [List.cons.injEq] at h2
  · rw [h2.1] at h1; rw [(dig_not h3).2.2.2.1] at h1; cases h1
  · exact (let_not h1).2.2.1 h2.1
theorem sign_not_num {l : List UInt8} (h : l.length = 1) (hs : isSign (l.getD 0 0) = true) : numF l = none ∧ nameF l = false := by
  match l, h with
  | [c], _ =>
    have hs : isSign c = true := by simpa using hs
    constructor
    · rw [numF_none]
      rintro n ⟨e, -⟩
      rcases itoa_form n with ⟨b, q, h2, h3, -⟩ | ⟨b, q, h2, h3, -⟩ <;> rw [e] at h2 <;> simp only [List.cons.injEq] at h2
      · rw [h2.1, (dig_not h3).2.1] at hs; cases hs
      · cases h2.2
    · cases hn : nameF [c] with
      | false => rfl
      | true =>
        obtain ⟨d, r, e, h1, -, -⟩ := name_form.1 hn
        cases e
        rw [(let_not h1).2.1] at hs; cases hs
theorem tok_num {n : Int} (h : inR n) : tokenF (Lib.itoa n) = ((2, ⟨#[]⟩, n, 0), true) := by
  unfold tokenF
  rw [(numF_iff _ _).2 ⟨rfl, h⟩]
theorem tok_name {l : List UInt8} (h : nameF l = true) : tokenF l = ((1, txt l, 0, 0), true) := by
  unfold tokenF
  rw [name_not_num h]
  simp only; rw [if_pos h]
theorem tok_sign {l : List UInt8} (h : l.length = 1) (hs : isSign (l.getD 0 0) = true) : tokenF l = ((3, txt l, 0, 0), true) := by
  unfold tokenF
  obtain ⟨h1, h2⟩ := sign_not_num h hs
  rw [h1]
  simp only; rw [if_neg (by rw [h2]; simp), if_pos ⟨h, hs⟩]
/-- what a word is -/
theorem tok_cases {w : List UInt8} (h : (tokenF w).2 = true) : (∃ n, w = Lib.itoa n ∧ inR n) ∨ nameF w = true ∨ (w.length = 1 ∧ isSign (w.getD 0 0) = true) := by
  unfold tokenF at h
  cases hn : numF w with
  | some n => obtain ⟨e1, e2⟩ := (numF_iff _ _).1 hn; exact .inl ⟨n, e1.symm, e2⟩
  | none =>
    rw [hn] at h
    simp only at h
    by_cases hN : nameF w = true
    · exact .inr (.inl hN)
    · rw [if_neg hN] at h
      by_cases hs : w.length = 1 ∧ isSign (w.getD 0 0) = true
      · exact .inr (.inr hs)
      · rw [if_neg hs] at h; cases h
end Go.Proofs.YtadimoijlgmecaaGreatDoor.Ax
/- Layer show: fields, catches, names of instructions. -/
set_option linter.unusedVariables false
set_option linter.unusedSimpArgs false
namespace Go.Proofs.YtadimoijlgmecaaGreatDoor.Ax
open Go Go.RowKit
def catchF (l : List UInt8) (a b c : Int) : Bool := freshF l && inF a 0 48 && inF b 0 48 && inF c 0 48
def catchC : Ctr := { A := List UInt8 × Int × Int × Int, enc := fun x => [.agg [X x.1, I x.2.1, I x.2.2.1, I x.2.2.2]], dom := fun x => x.1.length ≤ 4611686018427387904, res := fun x _ => B (catchF x.1 x.2.1 x.2.2.1 x.2.2.2), gl := tabS }
set_option maxRecDepth 100000 in
theorem catch_ok : CtrSound Tryz.prog 90 catchC :=
  ctr_of_ax (env_okB tys_ok (eqs := []) trivial (cs := [(42, freshC), (86, inC)]) ⟨fresh_ok, in_ok, trivial⟩ (bs := []) trivial (gl := tabS)) mixed _ Tryz.func90 (by kernel_rfl) rfl (fun _ _ => Nat.le_of_ble_eq_true rfl) fun ((l, a, b, c) : List UInt8 × Int × Int × Int) id hd => by
    refine ⟨l, ⟨.refl _, trivial⟩, rfl, hd, ?_⟩
    refine ⟨fun h1 => ?_, fun h1 => ⟨.bff (by unfold catchF; rw [show freshF l = false from h1]; rfl), rfl⟩⟩
    refine ⟨(a, 0, 48), ⟨.refl _, .refl _, .refl _, trivial⟩, rfl, trivial, ?_⟩
    refine ⟨fun h2 => ?_, fun h2 => ⟨.bff (by unfold catchF; rw [show inF a 0 48 = false from h2]; simp), rfl⟩⟩
    refine ⟨(b, 0, 48), ⟨.refl _, .refl _, .refl _, trivial⟩, rfl, trivial, ?_⟩
    refine ⟨fun h3 => ?_, fun h3 => ⟨.bff (by unfold catchF; rw [show inF b 0 48 = false from h3]; simp), rfl⟩⟩
    refine ⟨(c, 0, 48), ⟨.refl _, .refl _, .refl _, trivial⟩, rfl, trivial, ?_⟩
    exact ⟨.bool (by show inF c 0 48 = catchF l a b c; unfold catchF; rw [show freshF l = true from h1, show inF a 0 48 = true from h2, show inF b 0 48 = true from h3]; simp), rfl⟩
def fieldC : Ctr := { A := List UInt8 × Int × List UInt8 × Bool, enc := fun x => [.agg [X x.1, I x.2.1, X x.2.2.1, B x.2.2.2]], dom := fun x => x.1.length ≤ 4611686018427387904 ∧ x.2.2.1.length ≤ 4611686018427387904, res := fun x _ => B (freshF x.1 && typedF x.2.1 x.2.2.1), gl := tabS }
set_option maxRecDepth 100000 in
theorem field_ok : CtrSound Tryz.prog 52 fieldC :=
  ctr_of_ax (env_okB tys_ok (eqs := []) trivial (cs := [(42, freshC), (26, typedC)]) ⟨fresh_ok, typed_ok, trivial⟩ (bs := []) trivial (gl := tabS)) mixed _ Tryz.func52 (by kernel_rfl) rfl (fun _ _ => Nat.le_of_ble_eq_true rfl) fun ((l, k, m, s) : List UInt8 × Int × List UInt8 × Bool) id hd => by
    refine ⟨l, ⟨.refl _, trivial⟩, rfl, hd.1, ?_⟩
    refine ⟨fun h1 => ?_, fun h1 => ⟨.bff (by show (freshF l && typedF k m) = false; rw [show freshF l = false from h1]; rfl), rfl⟩⟩
    refine ⟨(k, m), ⟨.refl _, trivial⟩, rfl, hd.2, ?_⟩
    exact ⟨.bool (by show typedF k m = (freshF l && typedF k m); rw [show freshF l = true from h1]; rfl), rfl⟩
def namedF (l : List UInt8) (b : Bool) : Bool := if b then freshF l else decide (l = [])
def namedC : Ctr := { A := List UInt8 × Bool, enc := fun x => [X x.1, B x.2], dom := fun x => x.1.length ≤ 4611686018427387904, res := fun x _ => B (namedF x.1 x.2), gl := tabS }
set_option maxRecDepth 100000 in
theorem named_ok : CtrSound Tryz.prog 116 namedC :=
  ctr_of_ax (env_okB tys_ok (eqs := []) trivial (cs := [(42, freshC)]) ⟨fresh_ok, trivial⟩ (bs := []) trivial (gl := tabS)) mixed _ Tryz.func116 (by kernel_rfl) rfl (fun _ _ => Nat.le_of_ble_eq_true rfl) fun ((l, b) : List UInt8 × Bool) id hd => by
    have ht := txt_nil l
    refine ⟨fun h1 => ?_, fun h1 => ?_⟩
    · have h1 : b = true := h1
      refine ⟨l, ⟨.refl _, trivial⟩, rfl, hd, ?_⟩
      refine ⟨fun h2 => ⟨.btt (by unfold namedF; rw [if_pos h1]; exact h2), rfl⟩, fun h2 => ?_⟩
      refine ⟨fun c => ?_, fun _ => ?_⟩
      · have c : (!b) = true := c
        rw [h1] at c; cases c
      · exact ⟨.bff (by unfold namedF; rw [if_pos h1]; exact h2), rfl⟩
    · have h1 : b = false := h1
      refine ⟨fun _ => ?_, fun c => ?_⟩
      · exact ⟨.bool (by show ((txt l).toList == (⟨#[]⟩ : ByteArray).toList) = namedF l b; rw [ht]; unfold namedF; rw [if_neg (by rw [h1]; decide)]; simp [List.length_eq_zero_iff]), rfl⟩
      · have c : (!b) = false := c
        rw [h1] at c; cases c
end Go.Proofs.YtadimoijlgmecaaGreatDoor.Ax
/- Layer show: instructions. -/
set_option linter.unusedVariables false
set_option linter.unusedSimpArgs false
namespace Go.Proofs.YtadimoijlgmecaaGreatDoor.Ax
open Go Go.RowKit
def instrF (o n : Int) (a b : List UInt8) : Bool := inF o 0 43 && inF n (numsF o).1 (numsF o).2.1 && namedF a (decide (namesF o > 0)) && namedF b (decide (namesF o > 1))
def instrC : Ctr := { A := Int × Int × List UInt8 × List UInt8, enc := fun x => [.agg [I x.1, I x.2.1, X x.2.2.1, X x.2.2.2]], dom := fun x => x.2.2.1.length ≤ 4611686018427387904 ∧ x.2.2.2.length ≤ 4611686018427387904, res := fun x _ => B (instrF x.1 x.2.1 x.2.2.1 x.2.2.2), gl := tabS }
set_option maxRecDepth 100000 in
theorem instr_ok : CtrSound Tryz.prog 88 instrC :=
  ctr_of_ax (env_okB tys_ok (eqs := []) trivial (cs := [(105, numsC), (86, inC), (117, namesC), (116, namedC)]) ⟨nums_ok, in_ok, names_ok, named_ok, trivial⟩ (bs := []) trivial (gl := tabS)) mixed _ Tryz.func88 (by kernel_rfl) rfl (fun _ _ => Nat.le_of_ble_eq_true rfl) fun ((o, n, a, b) : Int × Int × List UInt8 × List UInt8) id hd => by
    refine ⟨o, ⟨.refl _, trivial⟩, rfl, trivial, ?_⟩
    refine ⟨by kernel_rfl, ?_⟩
    refine ⟨(o, 0, 43), ⟨.refl _, .refl _, .refl _, trivial⟩, rfl, trivial, ?_⟩
    refine ⟨fun h1 => ?_, fun h1 => ⟨.bff (by unfold instrF; rw [show inF o 0 43 = false from h1]; rfl), rfl⟩⟩
    refine ⟨(n, (numsF o).1, (numsF o).2.1), ⟨.refl _, .refl _, .refl _, trivial⟩, rfl, trivial, ?_⟩
    refine ⟨fun h2 => ?_, fun h2 => ⟨.bff (by unfold instrF; rw [show inF n (numsF o).1 (numsF o).2.1 = false from h2]; simp), rfl⟩⟩
    refine ⟨o, ⟨.refl _, trivial⟩, rfl, trivial, ?_⟩
    refine ⟨(a, decide (namesF o > 0)), ⟨.refl _, .refl _, trivial⟩, rfl, hd.1, ?_⟩
    refine ⟨fun h3 => ?_, fun h3 => ⟨.bff (by unfold instrF; rw [show namedF a (decide (namesF o > 0)) = false from h3]; simp), rfl⟩⟩
    refine ⟨o, ⟨.refl _, trivial⟩, rfl, trivial, ?_⟩
    refine ⟨(b, decide (namesF o > 1)), ⟨.refl _, .refl _, trivial⟩, rfl, hd.2, ?_⟩
    exact ⟨.bool (by show namedF b (decide (namesF o > 1)) = instrF o n a b; unfold instrF; rw [show inF o 0 43 = true from h1, show inF n (numsF o).1 (numsF o).2.1 = true from h2, show namedF a (decide (namesF o > 0)) = true from h3]; simp), rfl⟩
end Go.Proofs.YtadimoijlgmecaaGreatDoor.Ax
/- Layers parse and show: what is shown is read again: lists, methods, classes, programs. -/
set_option linter.unusedVariables false
set_option linter.unusedSimpArgs false
namespace Go.Proofs.YtadimoijlgmecaaGreatDoor.Ax
open Go Go.RowKit
/-! ### What show writes -/
def dig (n : Int) : ByteArray := itoaB n
def freshW (s : ByteArray) : Bool := freshF s.data.toList
def tyOk (t : Ty) : Bool := typedF t.1 t.2.data.toList
def insOk (x : Ins) : Bool := instrF x.op x.n x.a.data.toList x.b.data.toList
def catOk (c : Cat) : Bool := catchF c.name.data.toList c.fr c.up c.at'
def fldOk (f : Fld) : Bool := freshW f.name && tyOk f.type
def methOk (m : Meth) : Bool := !(m.abs && (decide (m.locals ≠ 0) || decide (m.code.length + m.catches.length > 0))) && (freshW m.name && ((decide (m.params.length ≤ 4) && m.params.all tyOk) && (tyOk m.ret && (inF m.locals 0 8 && ((decide (m.code.length ≤ 48) && m.code.all insOk) && (decide (m.catches.length ≤ 4) && m.catches.all catOk))))))
def clsOk (c : Cls) : Bool := freshW c.name && ((decide (c.super = noS) || (!c.iface && freshW c.super)) && ((decide (c.ifaces.length ≤ 4) && c.ifaces.all freshW) && ((decide (c.fields.length ≤ 6) && c.fields.all fldOk) && (decide (c.methods.length ≤ 6) && c.methods.all methOk))))
def prgOk (p : List Cls) : Bool := decide (p.length ≤ 10) && p.all clsOk
def kindW (t : Ty) : List ByteArray := kindF t.1 t.2
def listF (w : ByteArray) : List ByteArray → List ByteArray
  | [] => []
  | s :: r => [w, s] ++ r.flatMap fun x => [wComma, x]
def codeF (x : Ins) : List ByteArray := [wordF2 x.op] ++ ((if (numsF x.op).2.2 then [dig x.n] else []) ++ ((if x.a = noS then [] else [x.a]) ++ ((if x.b = noS then [] else [x.b]) ++ [wSemi])))
def paramsF : List Ty → List ByteArray
  | [] => []
  | t :: r => kindW t ++ r.flatMap fun x => wComma :: kindW x
def catF (c : Cat) : List ByteArray := [wCatch, c.name, dig c.fr, dig c.up, dig c.at', wSemi]
def doesF (m : Meth) : List ByteArray := [if m.static then wFunction else wMethod, m.name, wLp] ++ (paramsF m.params ++ ([wRp] ++ (kindW m.ret ++ (if m.abs then [wSemi] else [wLocals, dig m.locals, wLc] ++ (m.code.flatMap codeF ++ (m.catches.flatMap catF ++ [wRc]))))))
def fldF (f : Fld) : List ByteArray := [if f.static then wStatic else wField, f.name, wColon] ++ (kindW f.type ++ [wSemi])
def wordsC (c : Cls) : List ByteArray := [if c.iface then wInterface else wClass, c.name] ++ ((if c.super = noS then [] else [wExtends, c.super]) ++ (listF (if c.iface then wExtends else wImplements) c.ifaces ++ ([wLc] ++ (c.fields.flatMap fldF ++ (c.methods.flatMap doesF ++ [wRc])))))
def sepOf (w : ByteArray) : UInt8 := if w = wLc ∨ w = wRc ∨ w = wSemi then 10 else 32
def putW (w : ByteArray) : List UInt8 := w.data.toList ++ [sepOf w]
def textC (c : Cls) : List UInt8 := (wordsC c).flatMap putW
def textP (p : List Cls) : List UInt8 := p.flatMap textC
def showF (p : List Cls) : List UInt8 × Int := if prgOk p then (if 6000 < (textP p).length then ([], 2) else (textP p, 0)) else ([], 4)

/-! ### Words as tokens -/
abbrev T3 := Int × ByteArray × Int
def s3 (t : Tok) : T3 := (t.1, t.2.1, t.2.2.1)
def tokT (w : ByteArray) : T3 := s3 (tokenF w.data.toList).1
def tokB (w : ByteArray) : Bool := (tokenF w.data.toList).2
theorem ba_eta (s : ByteArray) : txt s.data.toList = s := rfl
theorem name_T {s : ByteArray} (h : nameF s.data.toList = true) : tokT s = (1, s, 0) ∧ tokB s = true := by
  unfold tokT tokB
  rw [tok_name h]
  exact ⟨rfl, rfl⟩
theorem sign_T {s : ByteArray} (h : s.data.toList.length = 1) (hs : isSign (s.data.toList.getD 0 0) = true) : tokT s = (3, s, 0) ∧ tokB s = true := by
  unfold tokT tokB
  rw [tok_sign h hs]
  exact ⟨rfl, rfl⟩
theorem num_T {n : Int} (h : inR n) : tokT (dig n) = (2, noS, n) ∧ tokB (dig n) = true := by
  unfold tokT tokB
  rw [show (dig n).data.toList = Lib.itoa n by simp [dig, itoaB], tok_num h]
  exact ⟨rfl, rfl⟩
theorem T_void : tokT wVoid = (1, wVoid, 0) ∧ tokB wVoid = true := name_T (by decide +kernel)
theorem T_int : tokT wInt = (1, wInt, 0) ∧ tokB wInt = true := name_T (by decide +kernel)
theorem T_locals : tokT wLocals = (1, wLocals, 0) ∧ tokB wLocals = true := name_T (by decide +kernel)
theorem T_catch : tokT wCatch = (1, wCatch, 0) ∧ tokB wCatch = true := name_T (by decide +kernel)
theorem T_field : tokT wField = (1, wField, 0) ∧ tokB wField = true := name_T (by decide +kernel)
theorem T_static : tokT wStatic = (1, wStatic, 0) ∧ tokB wStatic = true := name_T (by decide +kernel)
theorem T_method : tokT wMethod = (1, wMethod, 0) ∧ tokB wMethod = true := name_T (by decide +kernel)
theorem T_function : tokT wFunction = (1, wFunction, 0) ∧ tokB wFunction = true := name_T (by decide +kernel)
theorem T_class : tokT wClass = (1, wClass, 0) ∧ tokB wClass = true := name_T (by decide +kernel)
theorem T_interface : tokT wInterface = (1, wInterface, 0) ∧ tokB wInterface = true := name_T (by decide +kernel)
theorem T_extends : tokT wExtends = (1, wExtends, 0) ∧ tokB wExtends = true := name_T (by decide +kernel)
theorem T_implements : tokT wImplements = (1, wImplements, 0) ∧ tokB wImplements = true := name_T (by decide +kernel)
theorem T_lb : tokT wLb = (3, wLb, 0) ∧ tokB wLb = true := sign_T (by decide +kernel) (by decide +kernel)
theorem T_rb : tokT wRb = (3, wRb, 0) ∧ tokB wRb = true := sign_T (by decide +kernel) (by decide +kernel)
theorem T_lp : tokT wLp = (3, wLp, 0) ∧ tokB wLp = true := sign_T (by decide +kernel) (by decide +kernel)
theorem T_rp : tokT wRp = (3, wRp, 0) ∧ tokB wRp = true := sign_T (by decide +kernel) (by decide +kernel)
theorem T_lc : tokT wLc = (3, wLc, 0) ∧ tokB wLc = true := sign_T (by decide +kernel) (by decide +kernel)
theorem T_rc : tokT wRc = (3, wRc, 0) ∧ tokB wRc = true := sign_T (by decide +kernel) (by decide +kernel)
theorem T_comma : tokT wComma = (3, wComma, 0) ∧ tokB wComma = true := sign_T (by decide +kernel) (by decide +kernel)
theorem T_semi : tokT wSemi = (3, wSemi, 0) ∧ tokB wSemi = true := sign_T (by decide +kernel) (by decide +kernel)
theorem T_colon : tokT wColon = (3, wColon, 0) ∧ tokB wColon = true := sign_T (by decide +kernel) (by decide +kernel)
/-- a fresh name is none of the words that are kept, and no sign -/
theorem fresh_T {s : ByteArray} (h : freshW s = true) : tokT s = (1, s, 0) ∧ tokB s = true ∧ keptW s = false := by
  unfold freshW freshF at h
  rw [Bool.and_eq_true] at h
  exact ⟨(name_T h.1).1, (name_T h.1).2, by simpa [keptW] using h.2⟩
theorem fresh_ne {s w : ByteArray} (h : freshW s = true) (hw : keptW w = true ∨ nameF w.data.toList = false) : s ≠ w := by
  rintro rfl
  unfold freshW freshF at h
  rw [Bool.and_eq_true] at h
  rcases hw with hw | hw
  · have := h.2
    rw [show keptF s.data.toList = true from hw] at this; cases this
  · rw [hw] at h; cases h.1
theorem fresh_noS {s : ByteArray} (h : freshW s = true) : s ≠ noS := fresh_ne h (.inr (by decide +kernel))

/-! ### A reader ahead of words -/
structure At (r : Rs) (ts : List T3) : Prop where
  e : r.e = 0
  ts : (r.L.drop r.i).map s3 = ts
/-! ### Instructions -/
theorem op_facts : ∀ k, k < 44 → nameF (opsL.getD k noS).data.toList = true ∧ opV (opsL.getD k noS) = (k : Int) ∧ keptW (opsL.getD k noS) = false := by decide +kernel
theorem nums_R (o : Int) : -2147483648 ≤ (numsF o).1 ∧ (numsF o).2.1 ≤ 2147483647 ∧ ((numsF o).2.2 = false → (numsF o).1 = 0 ∧ (numsF o).2.1 = 0) := by
  unfold numsF
  split
  · exact ⟨by decide, by decide, fun h => by cases h⟩
  · split
    · exact ⟨by decide, by decide, fun h => by cases h⟩
    · split
      · exact ⟨by decide, by decide, fun h => by cases h⟩
      · exact ⟨by decide, by decide, fun _ => ⟨rfl, rfl⟩⟩
theorem named_T {s : ByteArray} {b : Bool} (h : namedF s.data.toList b = true) : (b = true → freshW s = true) ∧ (b = false → s = noS) := by
  unfold namedF at h
  refine ⟨fun hb => ?_, fun hb => ?_⟩
  · rw [if_pos hb] at h; exact h
  · rw [if_neg (by rw [hb]; decide)] at h
    exact ByteArray.ext (Array.ext' (of_decide_eq_true h))
theorem ins_parts {x : Ins} (h : insOk x = true) : 0 ≤ x.op ∧ x.op ≤ 43 ∧ (numsF x.op).1 ≤ x.n ∧ x.n ≤ (numsF x.op).2.1 ∧ namedF x.a.data.toList (decide (namesF x.op > 0)) = true ∧ namedF x.b.data.toList (decide (namesF x.op > 1)) = true := by
  unfold insOk instrF at h
  rw [Bool.and_eq_true, Bool.and_eq_true, Bool.and_eq_true] at h
  obtain ⟨⟨⟨h1, h2⟩, h3⟩, h4⟩ := h
  unfold inF at h1 h2
  have h1 := of_decide_eq_true h1
  have h2 := of_decide_eq_true h2
  exact ⟨h1.1, h1.2, h2.1, h2.2, h3, h4⟩
theorem word_op {o : Int} (h0 : 0 ≤ o) (h1 : o ≤ 43) : nameF (wordF2 o).data.toList = true ∧ opV (wordF2 o) = o ∧ keptW (wordF2 o) = false := by
  unfold wordF2
  rw [if_neg (by omega)]
  have := op_facts o.toNat (by omega)
  exact ⟨this.1, by rw [this.2.1]; omega, this.2.2⟩
theorem cat_parts {c : Cat} (h : catOk c = true) : freshW c.name = true ∧ (0 ≤ c.fr ∧ c.fr ≤ 48) ∧ (0 ≤ c.up ∧ c.up ≤ 48) ∧ 0 ≤ c.at' ∧ c.at' ≤ 48 := by
  unfold catOk catchF at h
  rw [Bool.and_eq_true, Bool.and_eq_true, Bool.and_eq_true] at h
  obtain ⟨⟨⟨h1, h2⟩, h3⟩, h4⟩ := h
  exact ⟨h1, of_decide_eq_true h2, of_decide_eq_true h3, of_decide_eq_true h4⟩
end Go.Proofs.YtadimoijlgmecaaGreatDoor.Ax
/- Layer parse: the reader's small steps. -/
set_option linter.unusedVariables false
set_option linter.unusedSimpArgs false
namespace Go.Proofs.YtadimoijlgmecaaGreatDoor.Ax
open Go Go.RowKit
/-- what lies in the package variables that the library reads -/
def tabP (w : World) : Prop := tabs w ∧ Lib.TabIs Tryz.prog w "strings.asciiSpace" .u8 Lib.asciiSpaceTab
end Go.Proofs.YtadimoijlgmecaaGreatDoor.Ax
/- Layer parse: the reader takes words. -/
set_option linter.unusedVariables false
set_option linter.unusedSimpArgs false
namespace Go.Proofs.YtadimoijlgmecaaGreatDoor.Ax
open Go Go.RowKit
end Go.Proofs.YtadimoijlgmecaaGreatDoor.Ax
/- Layer parse: names, types, parameters. -/
set_option linter.unusedVariables false
set_option linter.unusedSimpArgs false
namespace Go.Proofs.YtadimoijlgmecaaGreatDoor.Ax
open Go Go.RowKit
theorem notF {b : Bool} (h : (!b) = false) : b = true := by simpa using h
end Go.Proofs.YtadimoijlgmecaaGreatDoor.Ax
/- Layer parse: parameters, instructions. -/
set_option linter.unusedVariables false
set_option linter.unusedSimpArgs false
namespace Go.Proofs.YtadimoijlgmecaaGreatDoor.Ax
open Go Go.RowKit
end Go.Proofs.YtadimoijlgmecaaGreatDoor.Ax
/- Layer parse: instructions. -/
set_option linter.unusedVariables false
set_option linter.unusedSimpArgs false
namespace Go.Proofs.YtadimoijlgmecaaGreatDoor.Ax
open Go Go.RowKit
namespace Rs
end Rs
end Go.Proofs.YtadimoijlgmecaaGreatDoor.Ax
/- Layer parse: what a method does. -/
set_option linter.unusedVariables false
set_option linter.unusedSimpArgs false
namespace Go.Proofs.YtadimoijlgmecaaGreatDoor.Ax
open Go Go.RowKit
end Go.Proofs.YtadimoijlgmecaaGreatDoor.Ax
/- Layer parse: a class' members. -/
set_option linter.unusedVariables false
set_option linter.unusedSimpArgs false
namespace Go.Proofs.YtadimoijlgmecaaGreatDoor.Ax
open Go Go.RowKit
theorem baT {a b : ByteArray} (h : (a.toList == b.toList) = true) : a = b := by rw [ba_eq] at h; exact of_decide_eq_true h
theorem baF {a b : ByteArray} (h : (a.toList == b.toList) = false) : a ≠ b := by rw [ba_eq] at h; exact of_decide_eq_false h
end Go.Proofs.YtadimoijlgmecaaGreatDoor.Ax
/- Layer parse: classes, programs. -/
set_option linter.unusedVariables false
set_option linter.unusedSimpArgs false
namespace Go.Proofs.YtadimoijlgmecaaGreatDoor.Ax
open Go Go.RowKit
end Go.Proofs.YtadimoijlgmecaaGreatDoor.Ax
/- Layers parse and show: what is shown is read again: members, classes, programs. -/
set_option linter.unusedVariables false
set_option linter.unusedSimpArgs false
namespace Go.Proofs.YtadimoijlgmecaaGreatDoor.Ax
open Go Go.RowKit
theorem meth_parts {m : Meth} (h : methOk m = true) : (m.abs = true → m.locals = 0 ∧ m.code = [] ∧ m.catches = []) ∧ freshW m.name = true ∧ (m.params.length ≤ 4 ∧ ∀ t ∈ m.params, tyOk t = true) ∧ tyOk m.ret = true ∧ (0 ≤ m.locals ∧ m.locals ≤ 8) ∧
    (m.code.length ≤ 48 ∧ ∀ x ∈ m.code, insOk x = true) ∧ m.catches.length ≤ 4 ∧ ∀ x ∈ m.catches, catOk x = true := by
  unfold methOk inF at h
  simp only [Bool.and_eq_true, decide_eq_true_eq, List.all_eq_true, Bool.not_eq_true', Bool.and_eq_false_iff, Bool.or_eq_false_iff, decide_eq_false_iff_not] at h
  obtain ⟨h1, h2, h3, h4, h5, h6, h7⟩ := h
  refine ⟨fun ha => ?_, h2, h3, h4, h5, h6, h7⟩
  rcases h1 with h1 | h1
  · rw [ha] at h1; cases h1
  · refine ⟨Classical.byContradiction h1.1, ?_, ?_⟩
    · exact List.eq_nil_of_length_eq_zero (by omega)
    · exact List.eq_nil_of_length_eq_zero (by omega)
theorem cls_parts {c : Cls} (h : clsOk c = true) : freshW c.name = true ∧ (c.super = noS ∨ (c.iface = false ∧ freshW c.super = true)) ∧ (c.ifaces.length ≤ 4 ∧ ∀ x ∈ c.ifaces, freshW x = true) ∧ (c.fields.length ≤ 6 ∧ ∀ x ∈ c.fields, fldOk x = true) ∧ c.methods.length ≤ 6 ∧ ∀ x ∈ c.methods, methOk x = true := by
  unfold clsOk at h
  simp only [Bool.and_eq_true, Bool.or_eq_true, decide_eq_true_eq, List.all_eq_true, Bool.not_eq_true'] at h
  exact h
/-! ### The text's words -/
theorem kind_tok {t : Ty} (ht : tyOk t = true) : ∀ w ∈ kindW t, tokB w = true := by
  obtain ⟨k, s⟩ := t
  unfold tyOk typedF at ht
  unfold kindW kindF
  simp only at ht ⊢
  have a1 : tokB (⟨#[118, 111, 105, 100]⟩ : ByteArray) = true := T_void.2
  have a2 : tokB (⟨#[105, 110, 116]⟩ : ByteArray) = true := T_int.2
  have a3 : tokB (⟨#[91]⟩ : ByteArray) = true := T_lb.2
  have a4 : tokB (⟨#[93]⟩ : ByteArray) = true := T_rb.2
  by_cases h1 : k = 1
  · rw [if_pos h1]; intro w hw; simp at hw; rw [hw]; exact a1
  · rw [if_neg h1]
    by_cases h2 : k = 2
    · rw [if_pos h2]; intro w hw; simp at hw; rw [hw]; exact a2
    · rw [if_neg h2]
      by_cases h4 : k = 4
      · rw [if_pos h4]; intro w hw; simp at hw; rcases hw with rfl | rfl | rfl <;> assumption
      · rw [if_neg h4]
        rw [if_neg (by omega)] at ht
        have h35 : k = 3 ∨ k = 5 := by
          by_cases c : k = 3 ∨ k = 5
          · exact c
          · rw [if_neg c] at ht; cases ht
        rw [if_pos h35] at ht
        have hf : freshW s = true := ht
        have a5 := (fresh_T hf).2.1
        by_cases h5 : k = 5
        · rw [if_pos h5]; intro w hw; simp at hw; rcases hw with rfl | rfl | rfl <;> assumption
        · rw [if_neg h5]; intro w hw; simp at hw; rw [hw]; exact a5
def Toks (ws : List ByteArray) : Prop := ∀ w ∈ ws, tokB w = true
theorem Toks.app {a b : List ByteArray} (h : Toks a) (k : Toks b) : Toks (a ++ b) := fun w hw => (List.mem_append.1 hw).elim (h w) (k w)
theorem Toks.nil : Toks [] := fun _ h => by cases h
theorem Toks.cons {w : ByteArray} {ws : List ByteArray} (h : tokB w = true) (k : Toks ws) : Toks (w :: ws) := fun x hx => (List.mem_cons.1 hx).elim (fun e => e ▸ h) (k x)
theorem Toks.flat {α : Type} {g : α → List ByteArray} {l : List α} (h : ∀ x ∈ l, Toks (g x)) : Toks (l.flatMap g) := fun w hw => by
  obtain ⟨x, h1, h2⟩ := List.mem_flatMap.1 hw
  exact h x h1 w h2
theorem code_tok {x : Ins} (hx : insOk x = true) : Toks (codeF x) := by
  obtain ⟨h1, h2, h3, h4, h5, h6⟩ := ins_parts hx
  have hR := nums_R x.op
  unfold codeF
  refine .app (.cons (name_T (word_op h1 h2).1).2 .nil) (.app ?_ (.app ?_ (.app ?_ (.cons T_semi.2 .nil))))
  · split
    · exact .cons (num_T ⟨by omega, by omega⟩).2 .nil
    · exact .nil
  · split
    · exact .nil
    · rename_i hne
      cases hb : decide (namesF x.op > 0) with
      | true => rw [hb] at h5; exact .cons (fresh_T ((named_T h5).1 rfl)).2.1 .nil
      | false => rw [hb] at h5; exact absurd ((named_T h5).2 rfl) hne
  · split
    · exact .nil
    · rename_i hne
      cases hb : decide (namesF x.op > 1) with
      | true => rw [hb] at h6; exact .cons (fresh_T ((named_T h6).1 rfl)).2.1 .nil
      | false => rw [hb] at h6; exact absurd ((named_T h6).2 rfl) hne
theorem cat_tok {c : Cat} (hc : catOk c = true) : Toks (catF c) := by
  obtain ⟨h1, h2, h3, h4⟩ := cat_parts hc
  exact .cons T_catch.2 (.cons (fresh_T h1).2.1 (.cons (num_T ⟨by omega, by omega⟩).2 (.cons (num_T ⟨by omega, by omega⟩).2 (.cons (num_T ⟨by omega, by omega⟩).2 (.cons T_semi.2 .nil)))))
theorem params_tok {ps : List Ty} (h : ∀ t ∈ ps, tyOk t = true) : Toks (paramsF ps) := by
  cases ps with
  | nil => exact .nil
  | cons t l =>
    unfold paramsF
    exact .app (kind_tok (h t (by simp))) (.flat fun x hx => .cons T_comma.2 (kind_tok (h x (by simp [hx]))))
theorem does_tok {m : Meth} (hm : methOk m = true) : Toks (doesF m) := by
  obtain ⟨p1, p2, p3, p4, p5, p6, p7⟩ := meth_parts hm
  unfold doesF
  refine .app (.cons ?_ (.cons (fresh_T p2).2.1 (.cons T_lp.2 .nil))) (.app (params_tok p3.2) (.app (.cons T_rp.2 .nil) (.app (kind_tok p4) ?_)))
  · split
    · exact T_function.2
    · exact T_method.2
  · split
    · exact .cons T_semi.2 .nil
    · exact .app (.cons T_locals.2 (.cons (num_T ⟨by omega, by omega⟩).2 (.cons T_lc.2 .nil))) (.app (.flat fun x hx => code_tok (p6.2 x hx)) (.app (.flat fun x hx => cat_tok (p7.2 x hx)) (.cons T_rc.2 .nil)))
theorem fld_tok {f : Fld} (hf : fldOk f = true) : Toks (fldF f) := by
  unfold fldOk at hf
  rw [Bool.and_eq_true] at hf
  unfold fldF
  refine .app (.cons ?_ (.cons (fresh_T hf.1).2.1 (.cons T_colon.2 .nil))) (.app (kind_tok hf.2) (.cons T_semi.2 .nil))
  split
  · exact T_static.2
  · exact T_field.2
theorem cls_tok {c : Cls} (hc : clsOk c = true) : Toks (wordsC c) := by
  obtain ⟨h1, h2, h3, h4, h5⟩ := cls_parts hc
  unfold wordsC
  refine .app (.cons ?_ (.cons (fresh_T h1).2.1 .nil)) (.app ?_ (.app ?_ (.app (.cons T_lc.2 .nil) (.app (.flat fun x hx => fld_tok (h4.2 x hx)) (.app (.flat fun x hx => does_tok (h5.2 x hx)) (.cons T_rc.2 .nil))))))
  · split
    · exact T_interface.2
    · exact T_class.2
  · split
    · exact .nil
    · rename_i hne
      exact .cons T_extends.2 (.cons (fresh_T (h2.resolve_left hne).2).2.1 .nil)
  · cases hl : c.ifaces with
    | nil => exact .nil
    | cons s l =>
      rw [hl] at h3
      refine .app (.cons ?_ (.cons (fresh_T (h3.2 s (by simp))).2.1 .nil)) (.flat fun x hx => .cons T_comma.2 (.cons (fresh_T (h3.2 x (by simp [hx]))).2.1 .nil))
      split
      · exact T_extends.2
      · exact T_implements.2
theorem prg_parts {p : List Cls} (h : prgOk p = true) : p.length ≤ 10 ∧ ∀ c ∈ p, clsOk c = true := by
  unfold prgOk at h
  simpa using h
end Go.Proofs.YtadimoijlgmecaaGreatDoor.Ax
/- How the arguments of this seat's laws lie. -/
namespace Go.Proofs.YtadimoijlgmecaaGreatDoor.Ax
open Go Go.RowKit
abbrev sh9 : Shape := .str
theorem reads9 : Reads Tryz.prog 9 sh9 := Reads.str Tryz.underlying9 (by kernel_rfl)
abbrev sh3 : Shape := .int .i64
theorem reads3 : Reads Tryz.prog 3 sh3 := Reads.int Tryz.underlying3 (by kernel_rfl)
abbrev sh26 : Shape := sh3.pair sh9
theorem reads26 : Reads Tryz.prog 26 sh26 := Reads.struct Tryz.underlying26 (by kernel_rfl) (.cons rfl reads3 (.one rfl reads9))
theorem laidOut : laidOutB Tryz.prog = true := by kernel_rfl
end Go.Proofs.YtadimoijlgmecaaGreatDoor.Ax
/- Layer parse: what each statement wakes; ParseWords. -/
set_option linter.unusedVariables false
set_option linter.unusedSimpArgs false
namespace Go.Proofs.YtadimoijlgmecaaGreatDoor.Ax
open Go Go.RowKit
def ParseWords : Ctr := { A := Int × Int, enc := fun x => [I x.1, I x.2], dom := fun _ => True, res := fun _ _ => .tt, gl := tabP }
theorem name_len {s : ByteArray} (h : nameF s.data.toList = true) : s.data.toList.length ≤ 20 := by
  obtain ⟨c, r, e, -, -, h4⟩ := name_form.1 h
  exact h4
end Go.Proofs.YtadimoijlgmecaaGreatDoor.Ax
/- Layer parse: words with blanks between them; ParseTypes. -/
set_option linter.unusedVariables false
set_option linter.unusedSimpArgs false
namespace Go.Proofs.YtadimoijlgmecaaGreatDoor.Ax
open Go Go.RowKit
theorem rep_long (l : List UInt8) (h : 20 < l.length) : nameF l = false := by
  unfold nameF
  rw [decide_eq_false (by omega)]; rfl
theorem name_bad {l : List UInt8} {i : Nat} (h : i < l.length) (h1 : isLet (l.getD i 0) = false) (h2 : isDig (l.getD i 0) = false) : nameF l = false := by
  have : l.all isAl = false := by
    rw [Bool.eq_false_iff]
    intro c
    have := (all_at isAl l).1 c i h
    rw [isAl, h1, h2] at this
    cases this
  simp [nameF, this]
set_option maxRecDepth 100000 in
theorem rname_ok : CtrSound Tryz.prog 44 nameC :=
  ctr_of_ax (env_ok tys_ok (eqs := []) trivial (cs := [(76, byteB isLet), (77, byteB isDig)]) ⟨rletter_ok, rdigit_ok, trivial⟩) mixed _ Tryz.func44 (by kernel_rfl) rfl (fun _ _ => Nat.le_of_ble_eq_true rfl) fun (l : List UInt8) id hd => by
    have hd : l.length ≤ 4611686018427387904 := hd
    have hz := size_txt l
    have ha := at_txt l
    have no1 : l.length < 1 → nameF l = false := fun h => by unfold nameF; rw [decide_eq_false (by omega)]; rfl
    have no3 : isLet (l.getD 0 0) = false → nameF l = false := fun h => by simp only [nameF, h]; simp
    refine ⟨fun h => ?_, fun h => ?_⟩
    · exact ⟨.bff (no1 (by have h : decide (((⟨l.toArray⟩ : ByteArray).size : Int) < 1) = true := h
                           have := of_decide_eq_true h; omega)), rfl⟩
    have hpos : 0 < l.length := by
      have h : decide (((⟨l.toArray⟩ : ByteArray).size : Int) < 1) = false := h
      have := of_decide_eq_false h; omega
    refine ⟨fun h => ?_, fun h => ?_⟩
    · exact ⟨.bff (rep_long l (by have h : decide (((⟨l.toArray⟩ : ByteArray).size : Int) > 20) = true := h
                                  have := of_decide_eq_true h; omega)), rfl⟩
    have hle : l.length ≤ 20 := by
      have h : decide (((⟨l.toArray⟩ : ByteArray).size : Int) > 20) = false := h
      have := of_decide_eq_false h; omega
    refine ⟨⟨by omega, by rw [hz]; omega⟩, ?_⟩
    refine ⟨(txt l).data.getD 0 0, ⟨.refl _, trivial⟩, rfl, trivial, ?_⟩
    refine ⟨fun h => ?_, fun h => ?_⟩
    · rw [ha] at h; exact ⟨.bff (no3 (by simpa using h)), rfl⟩
    have hlet : isLet (l.getD 0 0) = true := by rw [ha] at h; simpa using h
    refine ⟨Nat, fun i => [(0, X l), (3, I i)], fun _ => [], fun i => 1 ≤ i ∧ i ≤ l.length ∧ ∀ j, j < i → isAl (l.getD j 0) = true, fun i => l.length - i, ⟨1, ⟨Nat.le_refl _, hpos, fun j hj => by rw [show j = 0 by omega, isAl, hlet]; rfl⟩, ⟨⟨rfl, rfl⟩, .refl _, .refl _, trivial⟩⟩, fun (i : Nat) hi => ?_⟩
    have hil : i ≤ l.length := hi.2.1
    have hn := hi.2.2
    have hwj : IntKind.i64.wrap ((i : Int) + 1) = ((i + 1 : Nat) : Int) := by rw [wrap_eq _ (by omega) (by omega)]; omega
    refine ⟨fun h => ?_, fun h => ?_⟩
    · have hlt : i < l.length := by
        have h : decide ((i : Int) < ((⟨l.toArray⟩ : ByteArray).size : Int)) = true := h
        have := of_decide_eq_true h; omega
      have nb : ∀ {f : UInt8 → Bool}, (!f ((txt l).data.getD i 0)) = true → f (l.getD i 0) = false := fun h => by rw [ha] at h; simpa using h
      have yb : ∀ {f : UInt8 → Bool}, (!f ((txt l).data.getD i 0)) = false → f (l.getD i 0) = true := fun h => by rw [ha] at h; simpa using h
      have nx : ∀ b, isAl (l.getD i 0) = b → b = true → ∀ j, j < i + 1 → isAl (l.getD j 0) = true := fun b hb hb2 j hj => by
        rcases Nat.lt_succ_iff_lt_or_eq.1 hj with q | rfl
        · exact hn j q
        · rw [hb, hb2]
      refine ⟨⟨by omega, by rw [hz]; omega⟩, ?_⟩
      refine ⟨(txt l).data.getD i 0, ⟨.refl _, trivial⟩, rfl, trivial, ?_⟩
      refine ⟨fun h => ?_, fun h => ?_⟩
      · refine ⟨⟨by omega, by rw [hz]; omega⟩, ?_⟩
        refine ⟨(txt l).data.getD i 0, ⟨.refl _, trivial⟩, rfl, trivial, ?_⟩
        refine ⟨fun h2 => ?_, fun h2 => ?_⟩
        · exact ⟨.bff (name_bad hlt (nb h) (nb h2)), rfl⟩
        · exact ⟨i + 1, ⟨by omega, hlt, nx _ rfl (by simp only [isAl, yb h2, Bool.or_true])⟩, by show l.length - (i + 1) < l.length - i; omega, ⟨rfl, rfl⟩, .refl _, .int hwj, trivial⟩
      · exact ⟨i + 1, ⟨by omega, hlt, nx _ rfl (by simp only [isAl, yb h, Bool.true_or])⟩, by show l.length - (i + 1) < l.length - i; omega, ⟨rfl, rfl⟩, .refl _, .int hwj, trivial⟩
    · have hie : i = l.length := by
        have h : decide ((i : Int) < ((⟨l.toArray⟩ : ByteArray).size : Int)) = false := h
        have := of_decide_eq_false h; omega
      exact ⟨.btt (by subst hie; simp only [nameF, hlet, (all_at isAl l).2 hn]; simp; omega), rfl⟩
/-! ### Words, a blank between them -/
/-! ### What the statement looks at -/
def rkeptC : Ctr := { A := ByteArray, enc := fun s => [S s], dom := fun _ => True, res := fun s _ => B (Lib.containsS keptL s) }
set_option maxRecDepth 100000 in
theorem rkept_ok : CtrSound Tryz.prog 45 rkeptC :=
  ctr_of_ax (env_ok tys_ok (eqs := []) trivial (cs := []) trivial) mixed _ Tryz.func45 (by kernel_rfl) rfl (fun _ _ => Nat.le_of_ble_eq_true rfl) fun (s : ByteArray) id _ => by
    have hl : keptL.length = 12 := by decide
    refine ⟨ByteArray, strC, noS, keptL, ⟨rfl, fun _ => rfl⟩, ⟨.refl _, .refl _, .refl _, .refl _, .refl _, .refl _, .refl _, .refl _, .refl _, .refl _, .refl _, .refl _, trivial⟩, rfl, ?_⟩
    refine ⟨Nat, fun i => [(0, S s), (3, .own ByteArray 1 strC noS keptL 5), (4, I i)], fun _ => [], fun i => i ≤ keptL.length ∧ ∀ j, j < i → keptL.getD j noS ≠ s, fun i => keptL.length - i,
      ⟨0, ⟨Nat.zero_le _, fun j hj => by omega⟩, ⟨⟨rfl, rfl⟩, .refl _, .refl _, .refl _, trivial⟩⟩, fun (i : Nat) hi => ?_⟩
    have hil := hi.1
    have hwj : IntKind.i64.wrap ((i : Int) + 1) = ((i + 1 : Nat) : Int) := by rw [wrap_eq _ (by omega) (by omega)]; omega
    refine ⟨fun h => ?_, fun h => ?_⟩
    · have hlt : i < keptL.length := dlt h
      refine ⟨(show 0 ≤ (i : Int) ∧ (i : Int) < ((keptL.length : Nat) : Int) by omega), ?_⟩
      refine ⟨fun h => ?_, fun h => ?_⟩
      · have h : keptL.getD i noS = s := baT h
        exact ⟨.btt ((Lib.containsS_iff _ _).2 (by rw [← h]; exact getT_mem _ _ _ hlt)), rfl⟩
      · have h : keptL.getD i noS ≠ s := baF h
        exact ⟨i + 1, ⟨hlt, fun j hj => by rcases Nat.lt_succ_iff_lt_or_eq.1 hj with q | rfl; exact hi.2 j q; exact h⟩, (show keptL.length - (i + 1) < keptL.length - i by omega), ⟨rfl, rfl⟩, .refl _, .refl _, .int hwj, trivial⟩
    · have hge : i = keptL.length := Nat.le_antisymm hil (dge h)
      have hno : Lib.containsS keptL s = false := by
        rw [Bool.eq_false_iff]
        intro c
        obtain ⟨j, hj, e⟩ := List.mem_iff_getElem.1 ((Lib.containsS_iff _ _).1 c)
        exact hi.2 j (by omega) (by simp [List.getD, hj, e])
      exact ⟨.bff hno, rfl⟩
theorem ty_eq : EqSound Tryz.prog 26 (flatC Ty tyC) :=
  eq_flat [.int .i64, .str] _ tyC Tryz.underlying26 (by kernel_rfl) (by kernel_rfl) (by kernel_rfl) (fun _ => rfl)
theorem ty_dec (a b : Ty) : cellsEq (tyC a) (tyC b) = decide (a = b) := by
  obtain ⟨a1, a2⟩ := a
  obtain ⟨b1, b2⟩ := b
  rw [Bool.eq_iff_iff]
  simp [tyC, cellsEq, cellEq, ba_eq]
set_option maxRecDepth 100000 in
theorem kTypes_ok : CtrSound Tryz.prog 120 (keepR Ty 2 tyC ty0) :=
  ctr_of_ax (env_ok tys_ok (eqs := [(26, flatC Ty tyC)]) ⟨ty_eq, trivial⟩ (cs := []) trivial) mixed _ Tryz.func120 (by kernel_rfl) rfl (fun _ _ => Nat.le_of_ble_eq_true rfl) fun ((k, l) : List Ty × List Ty) id hd => by
    have hd : k.length ≤ 4611686018427387904 := hd
    have no : ¬ (k = l) → Sub .ff (B (decide (k = l))) := fun h => .bff (decide_eq_false h)
    refine ⟨fun h2 => ?_, fun h2 => ?_⟩
    · exact ⟨no fun q => lneT h2 (by rw [q]), rfl⟩
    have hl : k.length = l.length := lneF h2
    refine ⟨Nat, fun i => [(0, .row Ty 2 tyC ty0 k), (1, .row Ty 2 tyC ty0 l), (5, I i)], fun _ => [], fun i => i ≤ k.length ∧ ∀ j, j < i → k.getD j ty0 = l.getD j ty0, fun i => k.length - i,
      ⟨0, ⟨Nat.zero_le _, fun j hj => by omega⟩, ⟨⟨rfl, rfl⟩, .refl _, .refl _, .refl _, trivial⟩⟩, fun (i : Nat) hi => ?_⟩
    have hil := hi.1
    have hwj : IntKind.i64.wrap ((i : Int) + 1) = ((i + 1 : Nat) : Int) := by rw [wrap_eq _ (by omega) (by omega)]; omega
    refine ⟨fun h => ?_, fun h => ?_⟩
    · have hlt : i < k.length := dlt h
      refine ⟨by kernel_rfl, ?_⟩
      refine ⟨⟨by omega, by omega⟩, ⟨by omega, by omega⟩, ?_⟩
      refine ⟨k.getD i ty0, l.getD i ty0, ⟨.refl _, .refl _, trivial⟩, ⟨.refl _, .refl _, trivial⟩, fun h => ?_, fun h => ?_⟩
      · have h : (!cellsEq (tyC (k.getD i ty0)) (tyC (l.getD i ty0))) = true := h
        rw [ty_dec] at h
        exact ⟨no fun q => by rw [q] at h; simp at h, rfl⟩
      · have h : (!cellsEq (tyC (k.getD i ty0)) (tyC (l.getD i ty0))) = false := h
        rw [ty_dec] at h
        have he : k.getD i ty0 = l.getD i ty0 := by simpa using h
        exact ⟨i + 1, ⟨hlt, fun j hj => by rcases Nat.lt_succ_iff_lt_or_eq.1 hj with q | rfl; exact hi.2 j q; exact he⟩, by show k.length - (i + 1) < k.length - i; omega, ⟨rfl, rfl⟩, .refl _, .refl _, .int hwj, trivial⟩
    · have hge : i = k.length := Nat.le_antisymm hil (dge h)
      exact ⟨.btt (decide_eq_true (ext_getD ty0 hl fun j (hj : j < k.length) => hi.2 j (hge ▸ hj))), rfl⟩
/-! ### ParseTypes -/
def ParseTypes : Ctr := { A := Int × ByteArray, enc := fun x => [I x.1, S x.2], dom := fun x => sh3.ok x.1 ∧ sh9.ok x.2, res := fun _ _ => .tt, gl := tabP }
end Go.Proofs.YtadimoijlgmecaaGreatDoor.Ax
/- Layer parse: ParseInstr. -/
set_option linter.unusedVariables false
set_option linter.unusedSimpArgs false
namespace Go.Proofs.YtadimoijlgmecaaGreatDoor.Ax
open Go Go.RowKit
def shapeF (o : Int) : Int := if o = 1 then 1 else if o = 3 ∨ o = 4 then 2 else if 14 ≤ o ∧ o ≤ 26 then 3 else if o = 27 ∨ o = 33 ∨ o = 37 ∨ o = 38 then 4 else if (28 ≤ o ∧ o ≤ 31) ∨ o = 39 ∨ o = 40 then 5 else 0
theorem shape_is {o k : Int} (h : (k = 1 ∧ o = 1) ∨ (k = 2 ∧ (o = 3 ∨ o = 4)) ∨ (k = 3 ∧ 14 ≤ o ∧ o ≤ 26) ∨ (k = 4 ∧ (o = 27 ∨ o = 33 ∨ o = 37 ∨ o = 38)) ∨ (k = 5 ∧ ((28 ≤ o ∧ o ≤ 31) ∧ o ≠ 27 ∨ o = 39 ∨ o = 40)) ∨
    (k = 0 ∧ o ≠ 1 ∧ o ≠ 3 ∧ o ≠ 4 ∧ ¬ (14 ≤ o ∧ o ≤ 26) ∧ o ≠ 27 ∧ o ≠ 33 ∧ o ≠ 37 ∧ o ≠ 38 ∧ ¬ (28 ≤ o ∧ o ≤ 31) ∧ o ≠ 39 ∧ o ≠ 40)) : k = shapeF o := by
  unfold shapeF
  split
  · omega
  · split
    · omega
    · split
      · omega
      · split
        · omega
        · split <;> omega
def rshapeC : Ctr := { A := Int, enc := fun n => [I n], dom := fun _ => True, res := fun n _ => I (shapeF n) }
set_option maxRecDepth 100000 in
theorem rshape_ok : CtrSound Tryz.prog 58 rshapeC :=
  ctr_of_ax (env_ok tys_ok (eqs := []) trivial (cs := []) trivial) mixed _ Tryz.func58 (by kernel_rfl) rfl (fun _ _ => Nat.le_of_ble_eq_true rfl) fun (o : Int) id _ => by
    refine ⟨fun h => ?_, fun h => ?_⟩
    · have q1 : o = 1 := eqT h
      exact ⟨.int (shape_is (by omega)), rfl⟩
    have q1 : ¬ o = 1 := eqF h
    refine ⟨fun h => ?_, fun h => ?_⟩
    · have q2 : o = 3 := eqT h
      exact ⟨.int (shape_is (by omega)), rfl⟩
    have q2 : ¬ o = 3 := eqF h
    refine ⟨fun h => ?_, fun h => ?_⟩
    · have q3 : o = 4 := eqT h
      exact ⟨.int (shape_is (by omega)), rfl⟩
    have q3 : ¬ o = 4 := eqF h
    refine ⟨fun h => ?_, fun h => ?_⟩
    · have q4 : o ≥ 14 := of_decide_eq_true h
      refine ⟨fun h => ?_, fun h => ?_⟩
      · have q5 : o ≤ 26 := of_decide_eq_true h
        exact ⟨.int (shape_is (by omega)), rfl⟩
      have q5 : ¬ o ≤ 26 := of_decide_eq_false h
      refine ⟨fun h => ?_, fun h => ?_⟩
      · have q6 : o = 27 := eqT h
        exact ⟨.int (shape_is (by omega)), rfl⟩
      have q6 : ¬ o = 27 := eqF h
      refine ⟨fun h => ?_, fun h => ?_⟩
      · have q7 : o = 33 := eqT h
        exact ⟨.int (shape_is (by omega)), rfl⟩
      have q7 : ¬ o = 33 := eqF h
      refine ⟨fun h => ?_, fun h => ?_⟩
      · have q8 : o = 37 := eqT h
        exact ⟨.int (shape_is (by omega)), rfl⟩
      have q8 : ¬ o = 37 := eqF h
      refine ⟨fun h => ?_, fun h => ?_⟩
      · have q9 : o = 38 := eqT h
        exact ⟨.int (shape_is (by omega)), rfl⟩
      have q9 : ¬ o = 38 := eqF h
      refine ⟨fun h => ?_, fun h => ?_⟩
      · have q10 : o ≥ 28 := of_decide_eq_true h
        refine ⟨fun h => ?_, fun h => ?_⟩
        · have q11 : o ≤ 31 := of_decide_eq_true h
          exact ⟨.int (shape_is (by omega)), rfl⟩
        have q11 : ¬ o ≤ 31 := of_decide_eq_false h
        refine ⟨fun h => ?_, fun h => ?_⟩
        · have q12 : o = 39 := eqT h
          exact ⟨.int (shape_is (by omega)), rfl⟩
        have q12 : ¬ o = 39 := eqF h
        refine ⟨fun h => ?_, fun h => ?_⟩
        · have q13 : o = 40 := eqT h
          exact ⟨.int (shape_is (by omega)), rfl⟩
        have q13 : ¬ o = 40 := eqF h
        exact ⟨.int (shape_is (by omega)), rfl⟩
      have q10 : ¬ o ≥ 28 := of_decide_eq_false h
      refine ⟨fun h => ?_, fun h => ?_⟩
      · have q14 : o = 39 := eqT h
        exact ⟨.int (shape_is (by omega)), rfl⟩
      have q14 : ¬ o = 39 := eqF h
      refine ⟨fun h => ?_, fun h => ?_⟩
      · have q15 : o = 40 := eqT h
        exact ⟨.int (shape_is (by omega)), rfl⟩
      have q15 : ¬ o = 40 := eqF h
      exact ⟨.int (shape_is (by omega)), rfl⟩
    have q4 : ¬ o ≥ 14 := of_decide_eq_false h
    refine ⟨fun h => ?_, fun h => ?_⟩
    · have q16 : o = 27 := eqT h
      exact ⟨.int (shape_is (by omega)), rfl⟩
    have q16 : ¬ o = 27 := eqF h
    refine ⟨fun h => ?_, fun h => ?_⟩
    · have q17 : o = 33 := eqT h
      exact ⟨.int (shape_is (by omega)), rfl⟩
    have q17 : ¬ o = 33 := eqF h
    refine ⟨fun h => ?_, fun h => ?_⟩
    · have q18 : o = 37 := eqT h
      exact ⟨.int (shape_is (by omega)), rfl⟩
    have q18 : ¬ o = 37 := eqF h
    refine ⟨fun h => ?_, fun h => ?_⟩
    · have q19 : o = 38 := eqT h
      exact ⟨.int (shape_is (by omega)), rfl⟩
    have q19 : ¬ o = 38 := eqF h
    refine ⟨fun h => ?_, fun h => ?_⟩
    · have q20 : o ≥ 28 := of_decide_eq_true h
      refine ⟨fun h => ?_, fun h => ?_⟩
      · have q21 : o ≤ 31 := of_decide_eq_true h
        exact ⟨.int (shape_is (by omega)), rfl⟩
      have q21 : ¬ o ≤ 31 := of_decide_eq_false h
      refine ⟨fun h => ?_, fun h => ?_⟩
      · have q22 : o = 39 := eqT h
        exact ⟨.int (shape_is (by omega)), rfl⟩
      have q22 : ¬ o = 39 := eqF h
      refine ⟨fun h => ?_, fun h => ?_⟩
      · have q23 : o = 40 := eqT h
        exact ⟨.int (shape_is (by omega)), rfl⟩
      have q23 : ¬ o = 40 := eqF h
      exact ⟨.int (shape_is (by omega)), rfl⟩
    have q20 : ¬ o ≥ 28 := of_decide_eq_false h
    refine ⟨fun h => ?_, fun h => ?_⟩
    · have q24 : o = 39 := eqT h
      exact ⟨.int (shape_is (by omega)), rfl⟩
    have q24 : ¬ o = 39 := eqF h
    refine ⟨fun h => ?_, fun h => ?_⟩
    · have q25 : o = 40 := eqT h
      exact ⟨.int (shape_is (by omega)), rfl⟩
    have q25 : ¬ o = 40 := eqF h
    exact ⟨.int (shape_is (by omega)), rfl⟩
def ParseInstr : Ctr := { A := Int × Int, enc := fun x => [I x.1, I x.2], dom := fun _ => True, res := fun _ _ => .tt, gl := tabP }
end Go.Proofs.YtadimoijlgmecaaGreatDoor.Ax
/- Layer show: each of a row is right. PRINTED by wip/sp/si.py. -/
set_option linter.unusedVariables false
set_option linter.unusedSimpArgs false
namespace Go.Proofs.YtadimoijlgmecaaGreatDoor.Ax
open Go Go.RowKit
def ixF {α : Type} (p : α → Bool) : List α → Nat → Int
  | [], _ => -1
  | x :: xs, i => if p x then (i : Int) else ixF p xs (i + 1)
theorem ixF_any {α : Type} (p : α → Bool) : ∀ (l : List α) (i : Nat), decide (ixF p l i ≥ 0) = l.any p
  | [], i => by simp [ixF]
  | x :: xs, i => by
    simp only [List.any_cons]
    by_cases h : p x = true
    · have e : ixF p (x :: xs) i = (i : Int) := if_pos h
      rw [h, Bool.true_or]
      exact decide_eq_true (by show 0 ≤ ixF p (x :: xs) i; rw [e]; exact Int.natCast_nonneg _)
    · have e : ixF p (x :: xs) i = ixF p xs (i + 1) := if_neg h
      rw [show p x = false by simpa using h, Bool.false_or, ← ixF_any p xs (i + 1)]
      exact decide_eq_decide.2 (by show 0 ≤ ixF p (x :: xs) i ↔ 0 ≤ ixF p xs (i + 1); rw [e])
theorem drop_at {α : Type} (d : α) (l : List α) (i : Nat) (h : i < l.length) : l.drop i = l.getD i d :: l.drop (i + 1) := by
  rw [List.drop_eq_getElem_cons h]; simp [List.getD, h]
theorem not_any_not {α : Type} (p : α → Bool) : ∀ l : List α, (!l.any fun x => !p x) = l.all p
  | [] => rfl
  | x :: xs => by simp only [List.any_cons, List.all_cons, Bool.not_or, Bool.not_not]; rw [not_any_not p xs]
abbrev SM : Nat := 4611686018427387904
def fldD (f : Fld) : Prop := f.name.size ≤ SM ∧ f.type.2.size ≤ SM
def insD (x : Ins) : Prop := x.a.size ≤ SM ∧ x.b.size ≤ SM
def catD (c : Cat) : Prop := c.name.size ≤ SM
def methD (m : Meth) : Prop := m.name.size ≤ SM ∧ m.ret.2.size ≤ SM ∧ (m.params.length ≤ 100000 ∧ ∀ x ∈ m.params, x.2.size ≤ SM) ∧ (m.code.length ≤ 100000 ∧ ∀ x ∈ m.code, insD x) ∧ (m.catches.length ≤ 100000 ∧ ∀ x ∈ m.catches, catD x)
def clsD (c : Cls) : Prop := c.name.size ≤ SM ∧ c.super.size ≤ SM ∧ (c.ifaces.length ≤ 100000 ∧ ∀ x ∈ c.ifaces, x.size ≤ SM) ∧ (c.fields.length ≤ 100000 ∧ ∀ x ∈ c.fields, fldD x) ∧ (c.methods.length ≤ 100000 ∧ ∀ x ∈ c.methods, methD x)
def prgD (p : List Cls) : Prop := p.length ≤ 100000 ∧ ∀ c ∈ p, clsD c
def eaStr_cap : SV := .elt Unit 1 (fun _ => [.fn 42 []]) () [()] 0 0
def eaStr_row (l : List ByteArray) : SV := .row ByteArray 1 strC noS l
def eaStr_lit : Ctr := { A := ByteArray, enc := fun x => [S x, eaStr_cap], dom := fun x => x.size ≤ 4611686018427387904, res := fun x _ => B (!(freshW x)), gl := tabS }
def eaStr_one : Ctr := { A := ByteArray, enc := fun x => [S x], dom := fun x => x.size ≤ 4611686018427387904, res := fun x _ => B (freshW x), gl := tabS }
theorem eaStr_lit_ok (h1 : CtrSound Tryz.prog 42 eaStr_one) : CtrSound Tryz.prog 80 eaStr_lit :=
  ctr_of_ax (env_okB tys_ok (eqs := []) trivial (cs := [(42, eaStr_one)]) ⟨h1, trivial⟩ (bs := []) trivial (gl := tabS)) mixed _ Tryz.func80 (by kernel_rfl) rfl (fun _ _ => Nat.le_of_ble_eq_true rfl) fun (x : ByteArray) id hd => by
    refine ⟨x, ⟨.refl _, trivial⟩, rfl, hd, ?_⟩
    exact ⟨.refl _, rfl⟩
def eaStr_ix : Ctr := { A := List ByteArray, enc := fun l => [eaStr_row l, .fn 80 [eaStr_cap]], dom := fun l => l.length ≤ 4611686018427387904 ∧ ∀ x ∈ l, x.size ≤ 4611686018427387904, res := fun l _ => I (ixF (fun x => !(freshW x)) l 0), gl := tabS }
theorem eaStr_ix_ok (h1 : CtrSound Tryz.prog 42 eaStr_one) : CtrSound Tryz.prog 109 eaStr_ix :=
  ctr_of_ax (env_okB tys_ok (eqs := []) trivial (cs := [(80, eaStr_lit)]) ⟨eaStr_lit_ok h1, trivial⟩ (bs := []) trivial (gl := tabS)) mixed _ Tryz.func109 (by kernel_rfl) rfl (fun _ _ => Nat.le_of_ble_eq_true rfl) fun (l : List ByteArray) id hd => by
    have hd1 : l.length ≤ 4611686018427387904 := hd.1
    refine ⟨Nat, fun i => [(0, eaStr_row l), (1, .fn 80 [eaStr_cap]), (7, I l.length), (8, I i)], fun _ => [], fun i => i ≤ l.length ∧ ixF (fun x => !(freshW x)) (l.drop i) i = ixF (fun x => !(freshW x)) l 0, fun i => l.length - i,
      ⟨0, ⟨Nat.zero_le _, rfl⟩, ⟨⟨rfl, rfl⟩, .refl _, .refl _, .refl _, .refl _, trivial⟩⟩, fun (i : Nat) hi => ?_⟩
    have hil := hi.1
    have hk := hi.2
    have hwj : IntKind.i64.wrap ((i : Int) + 1) = ((i + 1 : Nat) : Int) := by rw [wrap_eq _ (by omega) (by omega)]; omega
    refine ⟨fun h => ?_, fun h => ?_⟩
    · have hlt : i < l.length := by have := of_decide_eq_true h; omega
      rw [drop_at noS l i hlt] at hk
      refine ⟨⟨by omega, by omega⟩, ?_⟩
      refine ⟨l.getD i noS, ⟨.refl _, .refl _, trivial⟩, rfl, hd.2 _ (getT_mem l noS i hlt), ?_⟩
      refine ⟨fun h => ?_, fun h => ?_⟩
      · exact ⟨.int (by rw [← hk, ixF, if_pos h]), rfl⟩
      · rw [ixF, if_neg (by rw [show (!(fun x => (freshW x)) (l.getD i noS)) = false from h]; decide)] at hk
        exact ⟨i + 1, ⟨hlt, hk⟩, by show l.length - (i + 1) < l.length - i; omega, ⟨rfl, rfl⟩, .refl _, .refl _, .refl _, .int hwj, trivial⟩
    · have hge : i = l.length := by have := of_decide_eq_false h; omega
      subst hge
      rw [List.drop_length] at hk
      exact ⟨.int (by rw [← hk] <;> rfl), rfl⟩
def eaStr_has : Ctr := { A := List ByteArray, enc := fun l => [eaStr_row l, .fn 80 [eaStr_cap]], dom := fun l => l.length ≤ 4611686018427387904 ∧ ∀ x ∈ l, x.size ≤ 4611686018427387904, res := fun l _ => B (l.any (fun x => !(freshW x))), gl := tabS }
theorem eaStr_has_ok (h1 : CtrSound Tryz.prog 42 eaStr_one) : CtrSound Tryz.prog 79 eaStr_has :=
  ctr_of_ax (env_okB tys_ok (eqs := []) trivial (cs := [(109, eaStr_ix)]) ⟨eaStr_ix_ok h1, trivial⟩ (bs := []) trivial (gl := tabS)) mixed _ Tryz.func79 (by kernel_rfl) rfl (fun _ _ => Nat.le_of_ble_eq_true rfl) fun (l : List ByteArray) id hd => by
    refine ⟨l, ⟨.refl _, .refl _, trivial⟩, rfl, hd, ?_⟩
    exact ⟨.bool (by rw [← ixF_any] <;> rfl), rfl⟩
def eaStr_each : Ctr := { A := List ByteArray × Int, enc := fun x => [eaStr_row x.1, I x.2, .fn 42 []], dom := fun z => z.1.length ≤ 4611686018427387904 ∧ ∀ x ∈ z.1, x.size ≤ 4611686018427387904, res := fun z _ => B (decide ((z.1.length : Int) ≤ z.2) && z.1.all (fun x => (freshW x))), gl := tabS }
set_option maxRecDepth 100000 in
theorem eaStr_each_ok (h1 : CtrSound Tryz.prog 42 eaStr_one) : CtrSound Tryz.prog 50 eaStr_each :=
  ctr_of_ax (env_okB tys_ok (eqs := []) trivial (cs := [(79, eaStr_has)]) ⟨eaStr_has_ok h1, trivial⟩ (bs := []) trivial (gl := tabS)) mixed _ Tryz.func50 (by kernel_rfl) rfl (fun _ _ => Nat.le_of_ble_eq_true rfl) fun ((l, m) : List ByteArray × Int) id hd => by
    refine ⟨fun h => ?_, fun h => ?_⟩
    · refine ⟨l, ⟨.refl _, .refl _, trivial⟩, rfl, hd, ?_⟩
      exact ⟨.bool (by rw [show decide ((l.length : Int) ≤ m) = true from h, not_any_not]; rfl), rfl⟩
    · exact ⟨.bff (by rw [show decide ((l.length : Int) ≤ m) = false from h]; rfl), rfl⟩
def eaTy_cap : SV := .elt Unit 1 (fun _ => [.fn 26 []]) () [()] 0 0
def eaTy_row (l : List Ty) : SV := .row Ty 2 tyC ty0 l
def eaTy_lit : Ctr := { A := Ty, enc := fun x => [tyS x, eaTy_cap], dom := fun x => x.2.size ≤ 4611686018427387904, res := fun x _ => B (!(tyOk x)), gl := tabS }
def eaTy_one : Ctr := { A := Ty, enc := fun x => [tyS x], dom := fun x => x.2.size ≤ 4611686018427387904, res := fun x _ => B (tyOk x), gl := tabS }
theorem eaTy_lit_ok (h1 : CtrSound Tryz.prog 26 eaTy_one) : CtrSound Tryz.prog 113 eaTy_lit :=
  ctr_of_ax (env_okB tys_ok (eqs := []) trivial (cs := [(26, eaTy_one)]) ⟨h1, trivial⟩ (bs := []) trivial (gl := tabS)) mixed _ Tryz.func113 (by kernel_rfl) rfl (fun _ _ => Nat.le_of_ble_eq_true rfl) fun (x : Ty) id hd => by
    refine ⟨x, ⟨.refl _, trivial⟩, rfl, hd, ?_⟩
    exact ⟨.refl _, rfl⟩
def eaTy_ix : Ctr := { A := List Ty, enc := fun l => [eaTy_row l, .fn 113 [eaTy_cap]], dom := fun l => l.length ≤ 4611686018427387904 ∧ ∀ x ∈ l, x.2.size ≤ 4611686018427387904, res := fun l _ => I (ixF (fun x => !(tyOk x)) l 0), gl := tabS }
theorem eaTy_ix_ok (h1 : CtrSound Tryz.prog 26 eaTy_one) : CtrSound Tryz.prog 132 eaTy_ix :=
  ctr_of_ax (env_okB tys_ok (eqs := []) trivial (cs := [(113, eaTy_lit)]) ⟨eaTy_lit_ok h1, trivial⟩ (bs := []) trivial (gl := tabS)) mixed _ Tryz.func132 (by kernel_rfl) rfl (fun _ _ => Nat.le_of_ble_eq_true rfl) fun (l : List Ty) id hd => by
    have hd1 : l.length ≤ 4611686018427387904 := hd.1
    refine ⟨Nat, fun i => [(0, eaTy_row l), (1, .fn 113 [eaTy_cap]), (7, I l.length), (8, I i)], fun _ => [], fun i => i ≤ l.length ∧ ixF (fun x => !(tyOk x)) (l.drop i) i = ixF (fun x => !(tyOk x)) l 0, fun i => l.length - i,
      ⟨0, ⟨Nat.zero_le _, rfl⟩, ⟨⟨rfl, rfl⟩, .refl _, .refl _, .refl _, .refl _, trivial⟩⟩, fun (i : Nat) hi => ?_⟩
    have hil := hi.1
    have hk := hi.2
    have hwj : IntKind.i64.wrap ((i : Int) + 1) = ((i + 1 : Nat) : Int) := by rw [wrap_eq _ (by omega) (by omega)]; omega
    refine ⟨fun h => ?_, fun h => ?_⟩
    · have hlt : i < l.length := by have := of_decide_eq_true h; omega
      rw [drop_at ty0 l i hlt] at hk
      refine ⟨⟨by omega, by omega⟩, ?_⟩
      refine ⟨l.getD i ty0, ⟨.refl _, .refl _, trivial⟩, rfl, hd.2 _ (getT_mem l ty0 i hlt), ?_⟩
      refine ⟨fun h => ?_, fun h => ?_⟩
      · exact ⟨.int (by rw [← hk, ixF, if_pos h]), rfl⟩
      · rw [ixF, if_neg (by rw [show (!(fun x => (tyOk x)) (l.getD i ty0)) = false from h]; decide)] at hk
        exact ⟨i + 1, ⟨hlt, hk⟩, by show l.length - (i + 1) < l.length - i; omega, ⟨rfl, rfl⟩, .refl _, .refl _, .refl _, .int hwj, trivial⟩
    · have hge : i = l.length := by have := of_decide_eq_false h; omega
      subst hge
      rw [List.drop_length] at hk
      exact ⟨.int (by rw [← hk] <;> rfl), rfl⟩
def eaTy_has : Ctr := { A := List Ty, enc := fun l => [eaTy_row l, .fn 113 [eaTy_cap]], dom := fun l => l.length ≤ 4611686018427387904 ∧ ∀ x ∈ l, x.2.size ≤ 4611686018427387904, res := fun l _ => B (l.any (fun x => !(tyOk x))), gl := tabS }
theorem eaTy_has_ok (h1 : CtrSound Tryz.prog 26 eaTy_one) : CtrSound Tryz.prog 112 eaTy_has :=
  ctr_of_ax (env_okB tys_ok (eqs := []) trivial (cs := [(132, eaTy_ix)]) ⟨eaTy_ix_ok h1, trivial⟩ (bs := []) trivial (gl := tabS)) mixed _ Tryz.func112 (by kernel_rfl) rfl (fun _ _ => Nat.le_of_ble_eq_true rfl) fun (l : List Ty) id hd => by
    refine ⟨l, ⟨.refl _, .refl _, trivial⟩, rfl, hd, ?_⟩
    exact ⟨.bool (by rw [← ixF_any] <;> rfl), rfl⟩
def eaTy_each : Ctr := { A := List Ty × Int, enc := fun x => [eaTy_row x.1, I x.2, .fn 26 []], dom := fun z => z.1.length ≤ 4611686018427387904 ∧ ∀ x ∈ z.1, x.2.size ≤ 4611686018427387904, res := fun z _ => B (decide ((z.1.length : Int) ≤ z.2) && z.1.all (fun x => (tyOk x))), gl := tabS }
set_option maxRecDepth 100000 in
theorem eaTy_each_ok (h1 : CtrSound Tryz.prog 26 eaTy_one) : CtrSound Tryz.prog 85 eaTy_each :=
  ctr_of_ax (env_okB tys_ok (eqs := []) trivial (cs := [(112, eaTy_has)]) ⟨eaTy_has_ok h1, trivial⟩ (bs := []) trivial (gl := tabS)) mixed _ Tryz.func85 (by kernel_rfl) rfl (fun _ _ => Nat.le_of_ble_eq_true rfl) fun ((l, m) : List Ty × Int) id hd => by
    refine ⟨fun h => ?_, fun h => ?_⟩
    · refine ⟨l, ⟨.refl _, .refl _, trivial⟩, rfl, hd, ?_⟩
      exact ⟨.bool (by rw [show decide ((l.length : Int) ≤ m) = true from h, not_any_not]; rfl), rfl⟩
    · exact ⟨.bff (by rw [show decide ((l.length : Int) ≤ m) = false from h]; rfl), rfl⟩
def eaFld_cap : SV := .elt Unit 1 (fun _ => [.fn 52 []]) () [()] 0 0
def eaFld_row (l : List Fld) : SV := .row Fld 4 fldC fld0 l
def eaFld_lit : Ctr := { A := Fld, enc := fun x => [.agg (fldC x), eaFld_cap], dom := fun x => fldD x, res := fun x _ => B (!(fldOk x)), gl := tabS }
def eaFld_one : Ctr := { A := Fld, enc := fun x => [.agg (fldC x)], dom := fun x => fldD x, res := fun x _ => B (fldOk x), gl := tabS }
theorem eaFld_lit_ok (h1 : CtrSound Tryz.prog 52 eaFld_one) : CtrSound Tryz.prog 82 eaFld_lit :=
  ctr_of_ax (env_okB tys_ok (eqs := []) trivial (cs := [(52, eaFld_one)]) ⟨h1, trivial⟩ (bs := []) trivial (gl := tabS)) mixed _ Tryz.func82 (by kernel_rfl) rfl (fun _ _ => Nat.le_of_ble_eq_true rfl) fun (x : Fld) id hd => by
    refine ⟨x, ⟨.refl _, trivial⟩, rfl, hd, ?_⟩
    exact ⟨.refl _, rfl⟩
def eaFld_ix : Ctr := { A := List Fld, enc := fun l => [eaFld_row l, .fn 82 [eaFld_cap]], dom := fun l => l.length ≤ 4611686018427387904 ∧ ∀ x ∈ l, fldD x, res := fun l _ => I (ixF (fun x => !(fldOk x)) l 0), gl := tabS }
theorem eaFld_ix_ok (h1 : CtrSound Tryz.prog 52 eaFld_one) : CtrSound Tryz.prog 110 eaFld_ix :=
  ctr_of_ax (env_okB tys_ok (eqs := []) trivial (cs := [(82, eaFld_lit)]) ⟨eaFld_lit_ok h1, trivial⟩ (bs := []) trivial (gl := tabS)) mixed _ Tryz.func110 (by kernel_rfl) rfl (fun _ _ => Nat.le_of_ble_eq_true rfl) fun (l : List Fld) id hd => by
    have hd1 : l.length ≤ 4611686018427387904 := hd.1
    refine ⟨Nat, fun i => [(0, eaFld_row l), (1, .fn 82 [eaFld_cap]), (7, I l.length), (8, I i)], fun _ => [], fun i => i ≤ l.length ∧ ixF (fun x => !(fldOk x)) (l.drop i) i = ixF (fun x => !(fldOk x)) l 0, fun i => l.length - i,
      ⟨0, ⟨Nat.zero_le _, rfl⟩, ⟨⟨rfl, rfl⟩, .refl _, .refl _, .refl _, .refl _, trivial⟩⟩, fun (i : Nat) hi => ?_⟩
    have hil := hi.1
    have hk := hi.2
    have hwj : IntKind.i64.wrap ((i : Int) + 1) = ((i + 1 : Nat) : Int) := by rw [wrap_eq _ (by omega) (by omega)]; omega
    refine ⟨fun h => ?_, fun h => ?_⟩
    · have hlt : i < l.length := by have := of_decide_eq_true h; omega
      rw [drop_at fld0 l i hlt] at hk
      refine ⟨⟨by omega, by omega⟩, ?_⟩
      refine ⟨l.getD i fld0, ⟨.refl _, .refl _, trivial⟩, rfl, hd.2 _ (getT_mem l fld0 i hlt), ?_⟩
      refine ⟨fun h => ?_, fun h => ?_⟩
      · exact ⟨.int (by rw [← hk, ixF, if_pos h]), rfl⟩
      · rw [ixF, if_neg (by rw [show (!(fun x => (fldOk x)) (l.getD i fld0)) = false from h]; decide)] at hk
        exact ⟨i + 1, ⟨hlt, hk⟩, by show l.length - (i + 1) < l.length - i; omega, ⟨rfl, rfl⟩, .refl _, .refl _, .refl _, .int hwj, trivial⟩
    · have hge : i = l.length := by have := of_decide_eq_false h; omega
      subst hge
      rw [List.drop_length] at hk
      exact ⟨.int (by rw [← hk] <;> rfl), rfl⟩
def eaFld_has : Ctr := { A := List Fld, enc := fun l => [eaFld_row l, .fn 82 [eaFld_cap]], dom := fun l => l.length ≤ 4611686018427387904 ∧ ∀ x ∈ l, fldD x, res := fun l _ => B (l.any (fun x => !(fldOk x))), gl := tabS }
theorem eaFld_has_ok (h1 : CtrSound Tryz.prog 52 eaFld_one) : CtrSound Tryz.prog 81 eaFld_has :=
  ctr_of_ax (env_okB tys_ok (eqs := []) trivial (cs := [(110, eaFld_ix)]) ⟨eaFld_ix_ok h1, trivial⟩ (bs := []) trivial (gl := tabS)) mixed _ Tryz.func81 (by kernel_rfl) rfl (fun _ _ => Nat.le_of_ble_eq_true rfl) fun (l : List Fld) id hd => by
    refine ⟨l, ⟨.refl _, .refl _, trivial⟩, rfl, hd, ?_⟩
    exact ⟨.bool (by rw [← ixF_any] <;> rfl), rfl⟩
def eaFld_each : Ctr := { A := List Fld × Int, enc := fun x => [eaFld_row x.1, I x.2, .fn 52 []], dom := fun z => z.1.length ≤ 4611686018427387904 ∧ ∀ x ∈ z.1, fldD x, res := fun z _ => B (decide ((z.1.length : Int) ≤ z.2) && z.1.all (fun x => (fldOk x))), gl := tabS }
set_option maxRecDepth 100000 in
theorem eaFld_each_ok (h1 : CtrSound Tryz.prog 52 eaFld_one) : CtrSound Tryz.prog 51 eaFld_each :=
  ctr_of_ax (env_okB tys_ok (eqs := []) trivial (cs := [(81, eaFld_has)]) ⟨eaFld_has_ok h1, trivial⟩ (bs := []) trivial (gl := tabS)) mixed _ Tryz.func51 (by kernel_rfl) rfl (fun _ _ => Nat.le_of_ble_eq_true rfl) fun ((l, m) : List Fld × Int) id hd => by
    refine ⟨fun h => ?_, fun h => ?_⟩
    · refine ⟨l, ⟨.refl _, .refl _, trivial⟩, rfl, hd, ?_⟩
      exact ⟨.bool (by rw [show decide ((l.length : Int) ≤ m) = true from h, not_any_not]; rfl), rfl⟩
    · exact ⟨.bff (by rw [show decide ((l.length : Int) ≤ m) = false from h]; rfl), rfl⟩
def eaIns_cap : SV := .elt Unit 1 (fun _ => [.fn 88 []]) () [()] 0 0
def eaIns_row (l : List Ins) : SV := .row Ins 4 insC ins0 l
def eaIns_lit : Ctr := { A := Ins, enc := fun x => [.agg (insC x), eaIns_cap], dom := fun x => insD x, res := fun x _ => B (!(insOk x)), gl := tabS }
def eaIns_one : Ctr := { A := Ins, enc := fun x => [.agg (insC x)], dom := fun x => insD x, res := fun x _ => B (insOk x), gl := tabS }
theorem eaIns_lit_ok (h1 : CtrSound Tryz.prog 88 eaIns_one) : CtrSound Tryz.prog 115 eaIns_lit :=
  ctr_of_ax (env_okB tys_ok (eqs := []) trivial (cs := [(88, eaIns_one)]) ⟨h1, trivial⟩ (bs := []) trivial (gl := tabS)) mixed _ Tryz.func115 (by kernel_rfl) rfl (fun _ _ => Nat.le_of_ble_eq_true rfl) fun (x : Ins) id hd => by
    refine ⟨x, ⟨.refl _, trivial⟩, rfl, hd, ?_⟩
    exact ⟨.refl _, rfl⟩
def eaIns_ix : Ctr := { A := List Ins, enc := fun l => [eaIns_row l, .fn 115 [eaIns_cap]], dom := fun l => l.length ≤ 4611686018427387904 ∧ ∀ x ∈ l, insD x, res := fun l _ => I (ixF (fun x => !(insOk x)) l 0), gl := tabS }
theorem eaIns_ix_ok (h1 : CtrSound Tryz.prog 88 eaIns_one) : CtrSound Tryz.prog 133 eaIns_ix :=
  ctr_of_ax (env_okB tys_ok (eqs := []) trivial (cs := [(115, eaIns_lit)]) ⟨eaIns_lit_ok h1, trivial⟩ (bs := []) trivial (gl := tabS)) mixed _ Tryz.func133 (by kernel_rfl) rfl (fun _ _ => Nat.le_of_ble_eq_true rfl) fun (l : List Ins) id hd => by
    have hd1 : l.length ≤ 4611686018427387904 := hd.1
    refine ⟨Nat, fun i => [(0, eaIns_row l), (1, .fn 115 [eaIns_cap]), (7, I l.length), (8, I i)], fun _ => [], fun i => i ≤ l.length ∧ ixF (fun x => !(insOk x)) (l.drop i) i = ixF (fun x => !(insOk x)) l 0, fun i => l.length - i,
      ⟨0, ⟨Nat.zero_le _, rfl⟩, ⟨⟨rfl, rfl⟩, .refl _, .refl _, .refl _, .refl _, trivial⟩⟩, fun (i : Nat) hi => ?_⟩
    have hil := hi.1
    have hk := hi.2
    have hwj : IntKind.i64.wrap ((i : Int) + 1) = ((i + 1 : Nat) : Int) := by rw [wrap_eq _ (by omega) (by omega)]; omega
    refine ⟨fun h => ?_, fun h => ?_⟩
    · have hlt : i < l.length := by have := of_decide_eq_true h; omega
      rw [drop_at ins0 l i hlt] at hk
      refine ⟨⟨by omega, by omega⟩, ?_⟩
      refine ⟨l.getD i ins0, ⟨.refl _, .refl _, trivial⟩, rfl, hd.2 _ (getT_mem l ins0 i hlt), ?_⟩
      refine ⟨fun h => ?_, fun h => ?_⟩
      · exact ⟨.int (by rw [← hk, ixF, if_pos h]), rfl⟩
      · rw [ixF, if_neg (by rw [show (!(fun x => (insOk x)) (l.getD i ins0)) = false from h]; decide)] at hk
        exact ⟨i + 1, ⟨hlt, hk⟩, by show l.length - (i + 1) < l.length - i; omega, ⟨rfl, rfl⟩, .refl _, .refl _, .refl _, .int hwj, trivial⟩
    · have hge : i = l.length := by have := of_decide_eq_false h; omega
      subst hge
      rw [List.drop_length] at hk
      exact ⟨.int (by rw [← hk] <;> rfl), rfl⟩
def eaIns_has : Ctr := { A := List Ins, enc := fun l => [eaIns_row l, .fn 115 [eaIns_cap]], dom := fun l => l.length ≤ 4611686018427387904 ∧ ∀ x ∈ l, insD x, res := fun l _ => B (l.any (fun x => !(insOk x))), gl := tabS }
theorem eaIns_has_ok (h1 : CtrSound Tryz.prog 88 eaIns_one) : CtrSound Tryz.prog 114 eaIns_has :=
  ctr_of_ax (env_okB tys_ok (eqs := []) trivial (cs := [(133, eaIns_ix)]) ⟨eaIns_ix_ok h1, trivial⟩ (bs := []) trivial (gl := tabS)) mixed _ Tryz.func114 (by kernel_rfl) rfl (fun _ _ => Nat.le_of_ble_eq_true rfl) fun (l : List Ins) id hd => by
    refine ⟨l, ⟨.refl _, .refl _, trivial⟩, rfl, hd, ?_⟩
    exact ⟨.bool (by rw [← ixF_any] <;> rfl), rfl⟩
def eaIns_each : Ctr := { A := List Ins × Int, enc := fun x => [eaIns_row x.1, I x.2, .fn 88 []], dom := fun z => z.1.length ≤ 4611686018427387904 ∧ ∀ x ∈ z.1, insD x, res := fun z _ => B (decide ((z.1.length : Int) ≤ z.2) && z.1.all (fun x => (insOk x))), gl := tabS }
set_option maxRecDepth 100000 in
theorem eaIns_each_ok (h1 : CtrSound Tryz.prog 88 eaIns_one) : CtrSound Tryz.prog 87 eaIns_each :=
  ctr_of_ax (env_okB tys_ok (eqs := []) trivial (cs := [(114, eaIns_has)]) ⟨eaIns_has_ok h1, trivial⟩ (bs := []) trivial (gl := tabS)) mixed _ Tryz.func87 (by kernel_rfl) rfl (fun _ _ => Nat.le_of_ble_eq_true rfl) fun ((l, m) : List Ins × Int) id hd => by
    refine ⟨fun h => ?_, fun h => ?_⟩
    · refine ⟨l, ⟨.refl _, .refl _, trivial⟩, rfl, hd, ?_⟩
      exact ⟨.bool (by rw [show decide ((l.length : Int) ≤ m) = true from h, not_any_not]; rfl), rfl⟩
    · exact ⟨.bff (by rw [show decide ((l.length : Int) ≤ m) = false from h]; rfl), rfl⟩
def eaCat_cap : SV := .elt Unit 1 (fun _ => [.fn 90 []]) () [()] 0 0
def eaCat_row (l : List Cat) : SV := .row Cat 4 catC cat0 l
def eaCat_lit : Ctr := { A := Cat, enc := fun x => [.agg (catC x), eaCat_cap], dom := fun x => catD x, res := fun x _ => B (!(catOk x)), gl := tabS }
def eaCat_one : Ctr := { A := Cat, enc := fun x => [.agg (catC x)], dom := fun x => catD x, res := fun x _ => B (catOk x), gl := tabS }
theorem eaCat_lit_ok (h1 : CtrSound Tryz.prog 90 eaCat_one) : CtrSound Tryz.prog 119 eaCat_lit :=
  ctr_of_ax (env_okB tys_ok (eqs := []) trivial (cs := [(90, eaCat_one)]) ⟨h1, trivial⟩ (bs := []) trivial (gl := tabS)) mixed _ Tryz.func119 (by kernel_rfl) rfl (fun _ _ => Nat.le_of_ble_eq_true rfl) fun (x : Cat) id hd => by
    refine ⟨x, ⟨.refl _, trivial⟩, rfl, hd, ?_⟩
    exact ⟨.refl _, rfl⟩
def eaCat_ix : Ctr := { A := List Cat, enc := fun l => [eaCat_row l, .fn 119 [eaCat_cap]], dom := fun l => l.length ≤ 4611686018427387904 ∧ ∀ x ∈ l, catD x, res := fun l _ => I (ixF (fun x => !(catOk x)) l 0), gl := tabS }
theorem eaCat_ix_ok (h1 : CtrSound Tryz.prog 90 eaCat_one) : CtrSound Tryz.prog 134 eaCat_ix :=
  ctr_of_ax (env_okB tys_ok (eqs := []) trivial (cs := [(119, eaCat_lit)]) ⟨eaCat_lit_ok h1, trivial⟩ (bs := []) trivial (gl := tabS)) mixed _ Tryz.func134 (by kernel_rfl) rfl (fun _ _ => Nat.le_of_ble_eq_true rfl) fun (l : List Cat) id hd => by
    have hd1 : l.length ≤ 4611686018427387904 := hd.1
    refine ⟨Nat, fun i => [(0, eaCat_row l), (1, .fn 119 [eaCat_cap]), (7, I l.length), (8, I i)], fun _ => [], fun i => i ≤ l.length ∧ ixF (fun x => !(catOk x)) (l.drop i) i = ixF (fun x => !(catOk x)) l 0, fun i => l.length - i,
      ⟨0, ⟨Nat.zero_le _, rfl⟩, ⟨⟨rfl, rfl⟩, .refl _, .refl _, .refl _, .refl _, trivial⟩⟩, fun (i : Nat) hi => ?_⟩
    have hil := hi.1
    have hk := hi.2
    have hwj : IntKind.i64.wrap ((i : Int) + 1) = ((i + 1 : Nat) : Int) := by rw [wrap_eq _ (by omega) (by omega)]; omega
    refine ⟨fun h => ?_, fun h => ?_⟩
    · have hlt : i < l.length := by have := of_decide_eq_true h; omega
      rw [drop_at cat0 l i hlt] at hk
      refine ⟨⟨by omega, by omega⟩, ?_⟩
      refine ⟨l.getD i cat0, ⟨.refl _, .refl _, trivial⟩, rfl, hd.2 _ (getT_mem l cat0 i hlt), ?_⟩
      refine ⟨fun h => ?_, fun h => ?_⟩
      · exact ⟨.int (by rw [← hk, ixF, if_pos h]), rfl⟩
      · rw [ixF, if_neg (by rw [show (!(fun x => (catOk x)) (l.getD i cat0)) = false from h]; decide)] at hk
        exact ⟨i + 1, ⟨hlt, hk⟩, by show l.length - (i + 1) < l.length - i; omega, ⟨rfl, rfl⟩, .refl _, .refl _, .refl _, .int hwj, trivial⟩
    · have hge : i = l.length := by have := of_decide_eq_false h; omega
      subst hge
      rw [List.drop_length] at hk
      exact ⟨.int (by rw [← hk] <;> rfl), rfl⟩
def eaCat_has : Ctr := { A := List Cat, enc := fun l => [eaCat_row l, .fn 119 [eaCat_cap]], dom := fun l => l.length ≤ 4611686018427387904 ∧ ∀ x ∈ l, catD x, res := fun l _ => B (l.any (fun x => !(catOk x))), gl := tabS }
theorem eaCat_has_ok (h1 : CtrSound Tryz.prog 90 eaCat_one) : CtrSound Tryz.prog 118 eaCat_has :=
  ctr_of_ax (env_okB tys_ok (eqs := []) trivial (cs := [(134, eaCat_ix)]) ⟨eaCat_ix_ok h1, trivial⟩ (bs := []) trivial (gl := tabS)) mixed _ Tryz.func118 (by kernel_rfl) rfl (fun _ _ => Nat.le_of_ble_eq_true rfl) fun (l : List Cat) id hd => by
    refine ⟨l, ⟨.refl _, .refl _, trivial⟩, rfl, hd, ?_⟩
    exact ⟨.bool (by rw [← ixF_any] <;> rfl), rfl⟩
def eaCat_each : Ctr := { A := List Cat × Int, enc := fun x => [eaCat_row x.1, I x.2, .fn 90 []], dom := fun z => z.1.length ≤ 4611686018427387904 ∧ ∀ x ∈ z.1, catD x, res := fun z _ => B (decide ((z.1.length : Int) ≤ z.2) && z.1.all (fun x => (catOk x))), gl := tabS }
set_option maxRecDepth 100000 in
theorem eaCat_each_ok (h1 : CtrSound Tryz.prog 90 eaCat_one) : CtrSound Tryz.prog 89 eaCat_each :=
  ctr_of_ax (env_okB tys_ok (eqs := []) trivial (cs := [(118, eaCat_has)]) ⟨eaCat_has_ok h1, trivial⟩ (bs := []) trivial (gl := tabS)) mixed _ Tryz.func89 (by kernel_rfl) rfl (fun _ _ => Nat.le_of_ble_eq_true rfl) fun ((l, m) : List Cat × Int) id hd => by
    refine ⟨fun h => ?_, fun h => ?_⟩
    · refine ⟨l, ⟨.refl _, .refl _, trivial⟩, rfl, hd, ?_⟩
      exact ⟨.bool (by rw [show decide ((l.length : Int) ≤ m) = true from h, not_any_not]; rfl), rfl⟩
    · exact ⟨.bff (by rw [show decide ((l.length : Int) ≤ m) = false from h]; rfl), rfl⟩
def eaMeth_cap : SV := .elt Unit 1 (fun _ => [.fn 54 []]) () [()] 0 0
def eaMeth_row (l : List Meth) : SV := .row Meth 9 methC meth0 l
def eaMeth_lit : Ctr := { A := Meth, enc := fun x => [.agg (methC x), eaMeth_cap], dom := fun x => methD x, res := fun x _ => B (!(methOk x)), gl := tabS }
def eaMeth_one : Ctr := { A := Meth, enc := fun x => [.agg (methC x)], dom := fun x => methD x, res := fun x _ => B (methOk x), gl := tabS }
theorem eaMeth_lit_ok (h1 : CtrSound Tryz.prog 54 eaMeth_one) : CtrSound Tryz.prog 84 eaMeth_lit :=
  ctr_of_ax (env_okB tys_ok (eqs := []) trivial (cs := [(54, eaMeth_one)]) ⟨h1, trivial⟩ (bs := []) trivial (gl := tabS)) mixed _ Tryz.func84 (by kernel_rfl) rfl (fun _ _ => Nat.le_of_ble_eq_true rfl) fun (x : Meth) id hd => by
    refine ⟨x, ⟨.refl _, trivial⟩, rfl, hd, ?_⟩
    exact ⟨.refl _, rfl⟩
def eaMeth_ix : Ctr := { A := List Meth, enc := fun l => [eaMeth_row l, .fn 84 [eaMeth_cap]], dom := fun l => l.length ≤ 4611686018427387904 ∧ ∀ x ∈ l, methD x, res := fun l _ => I (ixF (fun x => !(methOk x)) l 0), gl := tabS }
theorem eaMeth_ix_ok (h1 : CtrSound Tryz.prog 54 eaMeth_one) : CtrSound Tryz.prog 111 eaMeth_ix :=
  ctr_of_ax (env_okB tys_ok (eqs := []) trivial (cs := [(84, eaMeth_lit)]) ⟨eaMeth_lit_ok h1, trivial⟩ (bs := []) trivial (gl := tabS)) mixed _ Tryz.func111 (by kernel_rfl) rfl (fun _ _ => Nat.le_of_ble_eq_true rfl) fun (l : List Meth) id hd => by
    have hd1 : l.length ≤ 4611686018427387904 := hd.1
    refine ⟨Nat, fun i => [(0, eaMeth_row l), (1, .fn 84 [eaMeth_cap]), (7, I l.length), (8, I i)], fun _ => [], fun i => i ≤ l.length ∧ ixF (fun x => !(methOk x)) (l.drop i) i = ixF (fun x => !(methOk x)) l 0, fun i => l.length - i,
      ⟨0, ⟨Nat.zero_le _, rfl⟩, ⟨⟨rfl, rfl⟩, .refl _, .refl _, .refl _, .refl _, trivial⟩⟩, fun (i : Nat) hi => ?_⟩
    have hil := hi.1
    have hk := hi.2
    have hwj : IntKind.i64.wrap ((i : Int) + 1) = ((i + 1 : Nat) : Int) := by rw [wrap_eq _ (by omega) (by omega)]; omega
    refine ⟨fun h => ?_, fun h => ?_⟩
    · have hlt : i < l.length := by have := of_decide_eq_true h; omega
      rw [drop_at meth0 l i hlt] at hk
      refine ⟨⟨by omega, by omega⟩, ?_⟩
      refine ⟨l.getD i meth0, ⟨.refl _, .refl _, trivial⟩, rfl, hd.2 _ (getT_mem l meth0 i hlt), ?_⟩
      refine ⟨fun h => ?_, fun h => ?_⟩
      · exact ⟨.int (by rw [← hk, ixF, if_pos h]), rfl⟩
      · rw [ixF, if_neg (by rw [show (!(fun x => (methOk x)) (l.getD i meth0)) = false from h]; decide)] at hk
        exact ⟨i + 1, ⟨hlt, hk⟩, by show l.length - (i + 1) < l.length - i; omega, ⟨rfl, rfl⟩, .refl _, .refl _, .refl _, .int hwj, trivial⟩
    · have hge : i = l.length := by have := of_decide_eq_false h; omega
      subst hge
      rw [List.drop_length] at hk
      exact ⟨.int (by rw [← hk] <;> rfl), rfl⟩
def eaMeth_has : Ctr := { A := List Meth, enc := fun l => [eaMeth_row l, .fn 84 [eaMeth_cap]], dom := fun l => l.length ≤ 4611686018427387904 ∧ ∀ x ∈ l, methD x, res := fun l _ => B (l.any (fun x => !(methOk x))), gl := tabS }
theorem eaMeth_has_ok (h1 : CtrSound Tryz.prog 54 eaMeth_one) : CtrSound Tryz.prog 83 eaMeth_has :=
  ctr_of_ax (env_okB tys_ok (eqs := []) trivial (cs := [(111, eaMeth_ix)]) ⟨eaMeth_ix_ok h1, trivial⟩ (bs := []) trivial (gl := tabS)) mixed _ Tryz.func83 (by kernel_rfl) rfl (fun _ _ => Nat.le_of_ble_eq_true rfl) fun (l : List Meth) id hd => by
    refine ⟨l, ⟨.refl _, .refl _, trivial⟩, rfl, hd, ?_⟩
    exact ⟨.bool (by rw [← ixF_any] <;> rfl), rfl⟩
def eaMeth_each : Ctr := { A := List Meth × Int, enc := fun x => [eaMeth_row x.1, I x.2, .fn 54 []], dom := fun z => z.1.length ≤ 4611686018427387904 ∧ ∀ x ∈ z.1, methD x, res := fun z _ => B (decide ((z.1.length : Int) ≤ z.2) && z.1.all (fun x => (methOk x))), gl := tabS }
set_option maxRecDepth 100000 in
theorem eaMeth_each_ok (h1 : CtrSound Tryz.prog 54 eaMeth_one) : CtrSound Tryz.prog 53 eaMeth_each :=
  ctr_of_ax (env_okB tys_ok (eqs := []) trivial (cs := [(83, eaMeth_has)]) ⟨eaMeth_has_ok h1, trivial⟩ (bs := []) trivial (gl := tabS)) mixed _ Tryz.func53 (by kernel_rfl) rfl (fun _ _ => Nat.le_of_ble_eq_true rfl) fun ((l, m) : List Meth × Int) id hd => by
    refine ⟨fun h => ?_, fun h => ?_⟩
    · refine ⟨l, ⟨.refl _, .refl _, trivial⟩, rfl, hd, ?_⟩
      exact ⟨.bool (by rw [show decide ((l.length : Int) ≤ m) = true from h, not_any_not]; rfl), rfl⟩
    · exact ⟨.bff (by rw [show decide ((l.length : Int) ≤ m) = false from h]; rfl), rfl⟩
def eaCls_cap : SV := .elt Unit 1 (fun _ => [.fn 32 []]) () [()] 0 0
def eaCls_row (l : List Cls) : SV := .row Cls 6 clsC cls0 l
def eaCls_lit : Ctr := { A := Cls, enc := fun x => [.agg (clsC x), eaCls_cap], dom := fun x => clsD x, res := fun x _ => B (!(clsOk x)), gl := tabS }
def eaCls_one : Ctr := { A := Cls, enc := fun x => [.agg (clsC x)], dom := fun x => clsD x, res := fun x _ => B (clsOk x), gl := tabS }
theorem eaCls_lit_ok (h1 : CtrSound Tryz.prog 32 eaCls_one) : CtrSound Tryz.prog 49 eaCls_lit :=
  ctr_of_ax (env_okB tys_ok (eqs := []) trivial (cs := [(32, eaCls_one)]) ⟨h1, trivial⟩ (bs := []) trivial (gl := tabS)) mixed _ Tryz.func49 (by kernel_rfl) rfl (fun _ _ => Nat.le_of_ble_eq_true rfl) fun (x : Cls) id hd => by
    refine ⟨x, ⟨.refl _, trivial⟩, rfl, hd, ?_⟩
    exact ⟨.refl _, rfl⟩
def eaCls_ix : Ctr := { A := List Cls, enc := fun l => [eaCls_row l, .fn 49 [eaCls_cap]], dom := fun l => l.length ≤ 4611686018427387904 ∧ ∀ x ∈ l, clsD x, res := fun l _ => I (ixF (fun x => !(clsOk x)) l 0), gl := tabS }
theorem eaCls_ix_ok (h1 : CtrSound Tryz.prog 32 eaCls_one) : CtrSound Tryz.prog 78 eaCls_ix :=
  ctr_of_ax (env_okB tys_ok (eqs := []) trivial (cs := [(49, eaCls_lit)]) ⟨eaCls_lit_ok h1, trivial⟩ (bs := []) trivial (gl := tabS)) mixed _ Tryz.func78 (by kernel_rfl) rfl (fun _ _ => Nat.le_of_ble_eq_true rfl) fun (l : List Cls) id hd => by
    have hd1 : l.length ≤ 4611686018427387904 := hd.1
    refine ⟨Nat, fun i => [(0, eaCls_row l), (1, .fn 49 [eaCls_cap]), (7, I l.length), (8, I i)], fun _ => [], fun i => i ≤ l.length ∧ ixF (fun x => !(clsOk x)) (l.drop i) i = ixF (fun x => !(clsOk x)) l 0, fun i => l.length - i,
      ⟨0, ⟨Nat.zero_le _, rfl⟩, ⟨⟨rfl, rfl⟩, .refl _, .refl _, .refl _, .refl _, trivial⟩⟩, fun (i : Nat) hi => ?_⟩
    have hil := hi.1
    have hk := hi.2
    have hwj : IntKind.i64.wrap ((i : Int) + 1) = ((i + 1 : Nat) : Int) := by rw [wrap_eq _ (by omega) (by omega)]; omega
    refine ⟨fun h => ?_, fun h => ?_⟩
    · have hlt : i < l.length := by have := of_decide_eq_true h; omega
      rw [drop_at cls0 l i hlt] at hk
      refine ⟨⟨by omega, by omega⟩, ?_⟩
      refine ⟨l.getD i cls0, ⟨.refl _, .refl _, trivial⟩, rfl, hd.2 _ (getT_mem l cls0 i hlt), ?_⟩
      refine ⟨fun h => ?_, fun h => ?_⟩
      · exact ⟨.int (by rw [← hk, ixF, if_pos h]), rfl⟩
      · rw [ixF, if_neg (by rw [show (!(fun x => (clsOk x)) (l.getD i cls0)) = false from h]; decide)] at hk
        exact ⟨i + 1, ⟨hlt, hk⟩, by show l.length - (i + 1) < l.length - i; omega, ⟨rfl, rfl⟩, .refl _, .refl _, .refl _, .int hwj, trivial⟩
    · have hge : i = l.length := by have := of_decide_eq_false h; omega
      subst hge
      rw [List.drop_length] at hk
      exact ⟨.int (by rw [← hk] <;> rfl), rfl⟩
def eaCls_has : Ctr := { A := List Cls, enc := fun l => [eaCls_row l, .fn 49 [eaCls_cap]], dom := fun l => l.length ≤ 4611686018427387904 ∧ ∀ x ∈ l, clsD x, res := fun l _ => B (l.any (fun x => !(clsOk x))), gl := tabS }
theorem eaCls_has_ok (h1 : CtrSound Tryz.prog 32 eaCls_one) : CtrSound Tryz.prog 48 eaCls_has :=
  ctr_of_ax (env_okB tys_ok (eqs := []) trivial (cs := [(78, eaCls_ix)]) ⟨eaCls_ix_ok h1, trivial⟩ (bs := []) trivial (gl := tabS)) mixed _ Tryz.func48 (by kernel_rfl) rfl (fun _ _ => Nat.le_of_ble_eq_true rfl) fun (l : List Cls) id hd => by
    refine ⟨l, ⟨.refl _, .refl _, trivial⟩, rfl, hd, ?_⟩
    exact ⟨.bool (by rw [← ixF_any] <;> rfl), rfl⟩
def eaCls_each : Ctr := { A := List Cls × Int, enc := fun x => [eaCls_row x.1, I x.2, .fn 32 []], dom := fun z => z.1.length ≤ 4611686018427387904 ∧ ∀ x ∈ z.1, clsD x, res := fun z _ => B (decide ((z.1.length : Int) ≤ z.2) && z.1.all (fun x => (clsOk x))), gl := tabS }
set_option maxRecDepth 100000 in
theorem eaCls_each_ok (h1 : CtrSound Tryz.prog 32 eaCls_one) : CtrSound Tryz.prog 31 eaCls_each :=
  ctr_of_ax (env_okB tys_ok (eqs := []) trivial (cs := [(48, eaCls_has)]) ⟨eaCls_has_ok h1, trivial⟩ (bs := []) trivial (gl := tabS)) mixed _ Tryz.func31 (by kernel_rfl) rfl (fun _ _ => Nat.le_of_ble_eq_true rfl) fun ((l, m) : List Cls × Int) id hd => by
    refine ⟨fun h => ?_, fun h => ?_⟩
    · refine ⟨l, ⟨.refl _, .refl _, trivial⟩, rfl, hd, ?_⟩
      exact ⟨.bool (by rw [show decide ((l.length : Int) ≤ m) = true from h, not_any_not]; rfl), rfl⟩
    · exact ⟨.bff (by rw [show decide ((l.length : Int) ≤ m) = false from h]; rfl), rfl⟩
end Go.Proofs.YtadimoijlgmecaaGreatDoor.Ax
/- Layer show: methods, classes, programs that can be shown. -/
set_option linter.unusedVariables false
set_option linter.unusedSimpArgs false
namespace Go.Proofs.YtadimoijlgmecaaGreatDoor.Ax
open Go Go.RowKit
theorem sz_len (s : ByteArray) : s.data.toList.length = s.size := by rw [Array.length_toList]; rfl
theorem eaStr_one_ok : CtrSound Tryz.prog 42 eaStr_one :=
  fresh_ok.weaken (c' := eaStr_one) (fun (x : ByteArray) => x.data.toList) (fun _ _ => rfl) (fun (x : ByteArray) h => by show x.data.toList.length ≤ _; rw [sz_len]; exact h) (fun _ _ _ => .refl _)
theorem eaTy_one_ok : CtrSound Tryz.prog 26 eaTy_one :=
  typed_ok.weaken (c' := eaTy_one) (fun (x : Ty) => (x.1, x.2.data.toList)) (fun _ _ => rfl) (fun (x : Ty) h => by show x.2.data.toList.length ≤ _; rw [sz_len]; exact h) (fun _ _ _ => .refl _)
theorem eaFld_one_ok : CtrSound Tryz.prog 52 eaFld_one :=
  field_ok.weaken (c' := eaFld_one) (fun (x : Fld) => (x.name.data.toList, x.type.1, x.type.2.data.toList, x.static)) (fun _ _ => rfl) (fun (x : Fld) h => ⟨by show x.name.data.toList.length ≤ _; rw [sz_len]; exact h.1, by show x.type.2.data.toList.length ≤ _; rw [sz_len]; exact h.2⟩) (fun _ _ _ => .refl _)
theorem eaIns_one_ok : CtrSound Tryz.prog 88 eaIns_one :=
  instr_ok.weaken (c' := eaIns_one) (fun (x : Ins) => (x.op, x.n, x.a.data.toList, x.b.data.toList)) (fun _ _ => rfl) (fun (x : Ins) h => ⟨by show x.a.data.toList.length ≤ _; rw [sz_len]; exact h.1, by show x.b.data.toList.length ≤ _; rw [sz_len]; exact h.2⟩) (fun _ _ _ => .refl _)
theorem eaCat_one_ok : CtrSound Tryz.prog 90 eaCat_one :=
  catch_ok.weaken (c' := eaCat_one) (fun (x : Cat) => (x.name.data.toList, x.fr, x.up, x.at')) (fun _ _ => rfl) (fun (x : Cat) h => by show x.name.data.toList.length ≤ _; rw [sz_len]; exact h) (fun _ _ _ => .refl _)
theorem len4 (n : Nat) : decide ((n : Int) ≤ 4) = decide (n ≤ 4) := decide_eq_decide.2 (by omega)
theorem len48 (n : Nat) : decide ((n : Int) ≤ 48) = decide (n ≤ 48) := decide_eq_decide.2 (by omega)
theorem len6 (n : Nat) : decide ((n : Int) ≤ 6) = decide (n ≤ 6) := decide_eq_decide.2 (by omega)
theorem len10 (n : Nat) : decide ((n : Int) ≤ 10) = decide (n ≤ 10) := decide_eq_decide.2 (by omega)
def methR (m : Meth) : Bool := freshW m.name && ((decide (m.params.length ≤ 4) && m.params.all tyOk) && (tyOk m.ret && (inF m.locals 0 8 && ((decide (m.code.length ≤ 48) && m.code.all insOk) && (decide (m.catches.length ≤ 4) && m.catches.all catOk)))))
def methL (m : Meth) : Bool := m.abs && (decide (m.locals ≠ 0) || decide (m.code.length + m.catches.length > 0))
theorem methOk_eq (m : Meth) : methOk m = (!methL m && methR m) := rfl
set_option maxRecDepth 100000 in
theorem eaMeth_one_ok : CtrSound Tryz.prog 54 eaMeth_one :=
  ctr_of_ax (env_okB tys_ok (eqs := []) trivial (cs := [(42, eaStr_one), (26, eaTy_one), (86, inC), (85, eaTy_each), (87, eaIns_each), (89, eaCat_each)]) ⟨eaStr_one_ok, eaTy_one_ok, in_ok, eaTy_each_ok eaTy_one_ok, eaIns_each_ok eaIns_one_ok, eaCat_each_ok eaCat_one_ok, trivial⟩ (bs := []) trivial (gl := tabS)) mixed _ Tryz.func54 (by kernel_rfl) rfl (fun _ _ => Nat.le_of_ble_eq_true rfl) fun (m : Meth) id hd => by
    obtain ⟨hd1, hd2, hd3, hd4, hd5⟩ : methD m := hd
    have hadd : IntKind.i64.wrap ((m.code.length : Int) + (m.catches.length : Int)) = ((m.code.length + m.catches.length : Nat) : Int) := by rw [wrap_eq _ (by omega) (by omega)]; omega
    have bad : methL m = true → methOk m = false := fun h => by rw [methOk_eq, h]; rfl
    have good : methL m = false → methOk m = methR m := fun h => by rw [methOk_eq, h]; simp
    have hl0 : (m.locals != 0) = false → decide (m.locals ≠ 0) = false := fun h => by simpa using h
    have ha : m.abs = true → (m.locals != 0) = false → decide (IntKind.i64.wrap ((m.code.length : Int) + (m.catches.length : Int)) > 0) = false → methOk m = methR m := fun h1 h2 h3 => good (by
      have h3 := of_decide_eq_false h3
      rw [hadd] at h3
      unfold methL
      rw [hl0 h2, decide_eq_false (by omega)]; simp)
    have hb : m.abs = false → methOk m = methR m := fun h => good (by unfold methL; rw [h]; rfl)
    have fin : methOk m = methR m → ∀ b, b = methR m → Sub (B b) (B (methOk m)) := fun h b hb => by rw [h, hb]; exact .refl _
    refine ⟨fun h1 => ⟨fun h2 => ⟨.bff (bad (by unfold methL; rw [show m.abs = true from h1, show decide (m.locals ≠ 0) = true from by simpa using h2]; rfl)), rfl⟩, fun h2 => ⟨fun h3 => ⟨.bff (bad (by
        have h3 : decide (IntKind.i64.wrap ((m.code.length : Int) + (m.catches.length : Int)) > 0) = true := h3
        have h3 := of_decide_eq_true h3
        rw [hadd] at h3
        unfold methL
        rw [show m.abs = true from h1, show decide (m.code.length + m.catches.length > 0) = true from decide_eq_true (by omega)]; simp)), rfl⟩, fun h3 => ?_⟩⟩, fun h1 => ?_⟩
    all_goals
      have hg : methOk m = methR m := by first | exact ha h1 h2 h3 | exact hb h1
      refine ⟨m.name, ⟨.refl _, trivial⟩, rfl, hd1, ?_⟩
      refine ⟨fun k1 => ?_, fun k1 => ⟨.bff (by rw [hg]; unfold methR; rw [show freshW m.name = false from k1]; rfl), rfl⟩⟩
      refine ⟨(m.params, 4), ⟨.refl _, .refl _, .refl _, trivial⟩, rfl, ⟨(show m.params.length ≤ 4611686018427387904 by omega), hd3.2⟩, ?_⟩
      refine ⟨fun k2 => ?_, fun k2 => ⟨.bff (by rw [hg]; unfold methR; rw [← len4, show (decide ((m.params.length : Int) ≤ 4) && m.params.all tyOk) = false from k2]; simp), rfl⟩⟩
      refine ⟨m.ret, ⟨.refl _, trivial⟩, rfl, hd2, ?_⟩
      refine ⟨fun k3 => ?_, fun k3 => ⟨.bff (by rw [hg]; unfold methR; rw [show tyOk m.ret = false from k3]; simp), rfl⟩⟩
      refine ⟨(m.locals, 0, 8), ⟨.refl _, .refl _, .refl _, trivial⟩, rfl, trivial, ?_⟩
      refine ⟨fun k4 => ?_, fun k4 => ⟨.bff (by rw [hg]; unfold methR; rw [show inF m.locals 0 8 = false from k4]; simp), rfl⟩⟩
      refine ⟨(m.code, 48), ⟨.refl _, .refl _, .refl _, trivial⟩, rfl, ⟨(show m.code.length ≤ 4611686018427387904 by omega), hd4.2⟩, ?_⟩
      refine ⟨fun k5 => ?_, fun k5 => ⟨.bff (by rw [hg]; unfold methR; rw [← len48, show (decide ((m.code.length : Int) ≤ 48) && m.code.all insOk) = false from k5]; simp), rfl⟩⟩
      refine ⟨(m.catches, 4), ⟨.refl _, .refl _, .refl _, trivial⟩, rfl, ⟨(show m.catches.length ≤ 4611686018427387904 by omega), hd5.2⟩, ?_⟩
      refine ⟨fin hg _ ?_, rfl⟩
      unfold methR
      rw [← len4, ← len48, ← len4]
      rw [show freshW m.name = true from k1, show (decide ((m.params.length : Int) ≤ 4) && m.params.all tyOk) = true from k2, show tyOk m.ret = true from k3, show inF m.locals 0 8 = true from k4, show (decide ((m.code.length : Int) ≤ 48) && m.code.all insOk) = true from k5]
      rfl
set_option maxRecDepth 100000 in
theorem eaCls_one_ok : CtrSound Tryz.prog 32 eaCls_one :=
  ctr_of_ax (env_okB tys_ok (eqs := []) trivial (cs := [(42, eaStr_one), (50, eaStr_each), (51, eaFld_each), (53, eaMeth_each)]) ⟨eaStr_one_ok, eaStr_each_ok eaStr_one_ok, eaFld_each_ok eaFld_one_ok, eaMeth_each_ok eaMeth_one_ok, trivial⟩ (bs := []) trivial (gl := tabS)) mixed _ Tryz.func32 (by kernel_rfl) rfl (fun _ _ => Nat.le_of_ble_eq_true rfl) fun (c : Cls) id hd => by
    obtain ⟨hd1, hd2, hd3, hd4, hd5⟩ : clsD c := hd
    have hns : (c.super.toList == (⟨#[]⟩ : ByteArray).toList) = decide (c.super = noS) := ba_eq _ _
    have e0 : (decide (c.super = noS) || (!c.iface && freshW c.super)) = true → clsOk c = (freshW c.name && ((decide (c.ifaces.length ≤ 4) && c.ifaces.all freshW) && ((decide (c.fields.length ≤ 6) && c.fields.all fldOk) && (decide (c.methods.length ≤ 6) && c.methods.all methOk)))) := fun h => by unfold clsOk; rw [h]; simp
    have e1 : (decide (c.super = noS) || (!c.iface && freshW c.super)) = false → clsOk c = false := fun h => by unfold clsOk; rw [h]; simp
    have nm : freshW c.name = false → clsOk c = false := fun h => by unfold clsOk; rw [h]; rfl
    have rest : (decide (c.super = noS) || (!c.iface && freshW c.super)) = true → freshW c.name = true → ∀ b, b = ((decide (c.ifaces.length ≤ 4) && c.ifaces.all freshW) && ((decide (c.fields.length ≤ 6) && c.fields.all fldOk) && (decide (c.methods.length ≤ 6) && c.methods.all methOk))) → b = clsOk c := fun h h2 b hb => by rw [e0 h, h2, hb]; rfl
    have bad : ∀ (h : (decide (c.super = noS) || (!c.iface && freshW c.super)) = true) (h2 : freshW c.name = true), ((decide (c.ifaces.length ≤ 4) && c.ifaces.all freshW) && ((decide (c.fields.length ≤ 6) && c.fields.all fldOk) && (decide (c.methods.length ≤ 6) && c.methods.all methOk))) = false → clsOk c = false := fun h h2 h3 => by rw [e0 h, h2, h3]; rfl
    refine ⟨fun k1 => ?_, fun k1 => ⟨fun k2 => ?_, fun k2 => ?_⟩⟩
    · have s1 : (decide (c.super = noS) || (!c.iface && freshW c.super)) = true := by rw [← hns, show (c.super.toList == (⟨#[]⟩ : ByteArray).toList) = true from k1]; rfl
      refine ⟨c.name, ⟨.refl _, trivial⟩, rfl, hd1, ?_⟩
      refine ⟨fun k3 => ?_, fun k3 => ⟨.bff (nm k3), rfl⟩⟩
      refine ⟨(c.ifaces, 4), ⟨.refl _, .refl _, .refl _, trivial⟩, rfl, ⟨(show c.ifaces.length ≤ 4611686018427387904 by omega), hd3.2⟩, ?_⟩
      refine ⟨fun k5 => ?_, fun k5 => ⟨.bff (bad s1 k3 (by rw [← len4, show (decide ((c.ifaces.length : Int) ≤ 4) && c.ifaces.all freshW) = false from k5]; rfl)), rfl⟩⟩
      refine ⟨(c.fields, 6), ⟨.refl _, .refl _, .refl _, trivial⟩, rfl, ⟨(show c.fields.length ≤ 4611686018427387904 by omega), hd4.2⟩, ?_⟩
      refine ⟨fun k6 => ?_, fun k6 => ⟨.bff (bad s1 k3 (by rw [← len6 c.fields.length, show (decide ((c.fields.length : Int) ≤ 6) && c.fields.all fldOk) = false from k6]; simp)), rfl⟩⟩
      refine ⟨(c.methods, 6), ⟨.refl _, .refl _, .refl _, trivial⟩, rfl, ⟨(show c.methods.length ≤ 4611686018427387904 by omega), hd5.2⟩, ?_⟩
      refine ⟨.bool (rest s1 k3 _ ?_), rfl⟩
      rw [← len4, ← len6 c.fields.length, ← len6 c.methods.length, show (decide ((c.ifaces.length : Int) ≤ 4) && c.ifaces.all freshW) = true from k5, show (decide ((c.fields.length : Int) ≤ 6) && c.fields.all fldOk) = true from k6]
      rfl
    · refine ⟨c.super, ⟨.refl _, trivial⟩, rfl, hd2, ?_⟩
      refine ⟨c.name, ⟨.refl _, trivial⟩, rfl, hd1, ?_⟩
      refine ⟨fun k3 => ?_, fun k3 => ⟨.bff (nm k3), rfl⟩⟩
      have hs : (decide (c.super = noS) || (!c.iface && freshW c.super)) = freshW c.super := by rw [← hns, show (c.super.toList == (⟨#[]⟩ : ByteArray).toList) = false from k1, show (!c.iface) = true from k2]; rfl
      refine ⟨fun k4 => ?_, fun k4 => ⟨.bff (e1 (hs.trans k4)), rfl⟩⟩
      have s1 := hs.trans k4
      refine ⟨(c.ifaces, 4), ⟨.refl _, .refl _, .refl _, trivial⟩, rfl, ⟨(show c.ifaces.length ≤ 4611686018427387904 by omega), hd3.2⟩, ?_⟩
      refine ⟨fun k5 => ?_, fun k5 => ⟨.bff (bad s1 k3 (by rw [← len4, show (decide ((c.ifaces.length : Int) ≤ 4) && c.ifaces.all freshW) = false from k5]; rfl)), rfl⟩⟩
      refine ⟨(c.fields, 6), ⟨.refl _, .refl _, .refl _, trivial⟩, rfl, ⟨(show c.fields.length ≤ 4611686018427387904 by omega), hd4.2⟩, ?_⟩
      refine ⟨fun k6 => ?_, fun k6 => ⟨.bff (bad s1 k3 (by rw [← len6 c.fields.length, show (decide ((c.fields.length : Int) ≤ 6) && c.fields.all fldOk) = false from k6]; simp)), rfl⟩⟩
      refine ⟨(c.methods, 6), ⟨.refl _, .refl _, .refl _, trivial⟩, rfl, ⟨(show c.methods.length ≤ 4611686018427387904 by omega), hd5.2⟩, ?_⟩
      refine ⟨.bool (rest s1 k3 _ ?_), rfl⟩
      rw [← len4, ← len6 c.fields.length, ← len6 c.methods.length, show (decide ((c.ifaces.length : Int) ≤ 4) && c.ifaces.all freshW) = true from k5, show (decide ((c.fields.length : Int) ≤ 6) && c.fields.all fldOk) = true from k6]
      rfl
    · have hs : (decide (c.super = noS) || (!c.iface && freshW c.super)) = false := by rw [← hns, show (c.super.toList == (⟨#[]⟩ : ByteArray).toList) = false from k1, show (!c.iface) = false from k2]; rfl
      refine ⟨c.name, ⟨.refl _, trivial⟩, rfl, hd1, ?_⟩
      refine ⟨fun k3 => ⟨.bff (e1 hs), rfl⟩, fun k3 => ⟨.bff (nm k3), rfl⟩⟩
def okC : Ctr := { A := List Cls, enc := fun p => [.agg [prgR p]], dom := prgD, res := fun p _ => I (if prgOk p then 0 else 4), gl := tabS }
set_option maxRecDepth 100000 in
theorem ok_ok : CtrSound Tryz.prog 14 okC :=
  ctr_of_ax (env_okB tys_ok (eqs := []) trivial (cs := [(31, eaCls_each)]) ⟨eaCls_each_ok eaCls_one_ok, trivial⟩ (bs := []) trivial (gl := tabS)) mixed _ Tryz.func14 (by kernel_rfl) rfl (fun _ _ => Nat.le_of_ble_eq_true rfl) fun (p : List Cls) id hd => by
    have hd : prgD p := hd
    have hd1 := hd.1
    refine ⟨(p, 10), ⟨.refl _, .refl _, .refl _, trivial⟩, rfl, ⟨(show p.length ≤ 4611686018427387904 by omega), hd.2⟩, ?_⟩
    refine ⟨fun h => ?_, fun h => ?_⟩
    · have h : (!(decide ((p.length : Int) ≤ 10) && p.all clsOk)) = true := h
      rw [len10] at h
      exact ⟨.int (by show (4 : Int) = if prgOk p then 0 else 4; rw [if_neg (by intro c; have c : (decide (p.length ≤ 10) && p.all clsOk) = true := c; rw [c] at h; cases h)]), rfl⟩
    · have h : (!(decide ((p.length : Int) ≤ 10) && p.all clsOk)) = false := h
      rw [len10] at h
      exact ⟨.int (by show (0 : Int) = if prgOk p then 0 else 4; rw [if_pos (by unfold prgOk; simpa using h)]), rfl⟩
end Go.Proofs.YtadimoijlgmecaaGreatDoor.Ax
/- The reference of layers 1 to 3: names, types, instructions. -/
set_option linter.unusedVariables false
set_option linter.unusedSimpArgs false
namespace Go.Proofs.YtadimoijlgmecaaGreatDoor.Ax
open Go Go.RowKit
abbrev rfreshC : Ctr := { A := ByteArray, enc := fun s => [S s], dom := fun s => s.size ≤ 4611686018427387904, res := fun s _ => B (freshW s) }
theorem rfresh_ok : CtrSound Tryz.prog 29 rfreshC :=
  ctr_of_ax (env_ok tys_ok (eqs := []) trivial (cs := [(44, nameC), (45, rkeptC)]) ⟨rname_ok, rkept_ok, trivial⟩) mixed _ Tryz.func29 (by kernel_rfl) rfl (fun _ _ => Nat.le_of_ble_eq_true rfl) fun (s : ByteArray) id hd => by
    refine ⟨s.data.toList, ⟨.refl _, trivial⟩, rfl, (show s.data.toList.length ≤ 4611686018427387904 by rw [sz_len]; exact hd), ?_⟩
    refine ⟨fun h1 => ?_, fun h1 => ⟨.bff (by show freshF s.data.toList = false; unfold freshF; rw [show nameF s.data.toList = false from h1]; rfl), rfl⟩⟩
    refine ⟨s, ⟨.refl _, trivial⟩, rfl, trivial, ?_⟩
    exact ⟨.bool (by show (!Lib.containsS keptL s) = freshF s.data.toList; unfold freshF; rw [show nameF s.data.toList = true from h1]; rfl), rfl⟩
abbrev rinC : Ctr := { A := Int × Int × Int, enc := fun x => [I x.1, I x.2.1, I x.2.2], dom := fun _ => True, res := fun x _ => B (inF x.1 x.2.1 x.2.2) }
theorem rin_ok : CtrSound Tryz.prog 46 rinC :=
  ctr_of_ax (env_ok tys_ok (eqs := []) trivial (cs := []) trivial) mixed _ Tryz.func46 (by kernel_rfl) rfl (fun _ _ => Nat.le_of_ble_eq_true rfl) fun ((n, lo, hi) : Int × Int × Int) id _ => by
    refine ⟨fun h => ?_, fun h => ?_⟩
    · have h1 : n ≥ lo := of_decide_eq_true h
      exact ⟨.bool (by show decide (n ≤ hi) = inF n lo hi; unfold inF; rw [Bool.eq_iff_iff]; simp; omega), rfl⟩
    · have h1 : ¬ n ≥ lo := of_decide_eq_false h
      exact ⟨.bff (by show inF n lo hi = false; unfold inF; simp; omega), rfl⟩
def ttL (t : Ty) : List UInt8 := (typeF t.1 t.2.data.toList).1
abbrev rttC : Ctr := { A := Ty, enc := fun t => [tyS t], dom := fun t => t.2.size ≤ 4611686018427387904, res := fun t _ => X (ttL t) }
theorem ttL_no {t : Ty} : ((txt (ttL t)).toList == (⟨#[]⟩ : ByteArray).toList) = !tyOk t := by
  rw [txt_nil]
  unfold ttL typeF tyOk
  by_cases h : typedF t.1 t.2.data.toList = true
  · rw [if_pos h, h]
    have hk : (sjoinF (kindF t.1 (txt t.2.data.toList)) ⟨#[]⟩).length ≠ 0 := by
      unfold typedF at h
      unfold kindF sjoinF
      split
      · simp [Lib.join_cons, Lib.joinTail]
      · split
        · simp [Lib.join_cons, Lib.joinTail]
        · split
          · simp [Lib.join_cons, Lib.joinTail]
          · split
            · simp [Lib.join_cons, Lib.joinTail]
            · rename_i c1 c2 c3 c4
              rw [if_neg (fun q => q.elim c1 fun q => q.elim c2 c3)] at h
              split at h
              · have hf : freshW t.2 = true := h
                have := fresh_noS hf
                intro c
                apply this
                simp [Lib.join_cons, Lib.joinTail] at c
                exact c
              · cases h
    simpa [List.length_eq_zero_iff] using hk
  · rw [if_neg h]
    simp [show typedF t.1 t.2.data.toList = false by simpa using h]
theorem ba_nil {s : ByteArray} : s = noS ↔ s.data.toList = [] := ⟨fun h => by rw [h], fun h => ByteArray.ext (Array.toList_inj.1 h)⟩
set_option maxRecDepth 100000 in
theorem rtt_ok : CtrSound Tryz.prog 12 rttC :=
  ctr_of_ax (env_okB tys_ok (eqs := []) trivial (cs := [(29, rfreshC)]) ⟨rfresh_ok, trivial⟩ (bs := []) trivial (cut := [99999])) mixed _ Tryz.func12 (by kernel_rfl) rfl (fun _ _ => Nat.le_of_ble_eq_true rfl) fun ((k, s) : Ty) id hd => by
    have hd : s.size ≤ 4611686018427387904 := hd
    have es : (s.toList == (⟨#[]⟩ : ByteArray).toList) = decide (s = noS) := ba_eq _ _
    have st : ∀ l : List UInt8, ∀ b : ByteArray, typedF k s.data.toList = true → l = sjoinF (kindF k s) ⟨#[]⟩ → b = txt l → Sub (S b) (X (ttL (k, s))) := fun l b h e hb => by
      have : ttL (k, s) = l := by
        show (typeF k s.data.toList).1 = l
        unfold typeF; rw [if_pos h, e]
      rw [this]; exact .str hb
    have ty0 : ∀ j, (j = 1 ∨ j = 2 ∨ j = 4) → k = j → s = noS → typedF k s.data.toList = true := fun j hj h1 h2 => by
      unfold typedF; rw [h1, if_pos hj]; exact decide_eq_true (ba_nil.1 h2)
    have ty1 : ∀ j, (j = 3 ∨ j = 5) → k = j → freshW s = true → typedF k s.data.toList = true := fun j hj h1 h2 => by
      unfold typedF; rw [h1, if_neg (by omega), if_pos hj]; exact h2
    have one : ∀ j : Int, (k == j) = true → (s.toList == (⟨#[]⟩ : ByteArray).toList) = decide (k = j ∧ s = noS) := fun j h => by
      rw [es]; exact decide_eq_decide.2 ⟨fun c => ⟨eqT h, c⟩, fun c => c.2⟩
    have two : ∀ j : Int, (k == j) = false → false = decide (k = j ∧ s = noS) := fun j h => (decide_eq_false fun c => eqF h c.1).symm
    have one' : ∀ j : Int, (k == j) = true → freshW s = decide (k = j ∧ freshW s = true) := fun j h => by
      cases c : freshW s with
      | true => exact (decide_eq_true ⟨eqT h, rfl⟩).symm
      | false => exact (decide_eq_false fun c => by cases c.2).symm
    have two' : ∀ j : Int, (k == j) = false → false = decide (k = j ∧ freshW s = true) := fun j h => (decide_eq_false fun c => eqF h c.1).symm
    refine ⟨Bool, fun b => [(1, .box 1 0), (3, B b)], fun _ => [(1, tyC (k, s))], fun b => b = decide (k = 1 ∧ s = noS), ?_, fun b1 hb1 => ?_⟩
    · refine ⟨fun h1 => ?_, fun h1 => ?_⟩
      · exact ⟨_, one 1 h1, ⟨rfl, rfl⟩, .refl _, .refl _, ⟨.refl _, .refl _, trivial⟩, trivial⟩
      · exact ⟨false, two 1 h1, ⟨rfl, rfl⟩, .refl _, .bff rfl, ⟨.refl _, .refl _, trivial⟩, trivial⟩
    refine ⟨fun h => ?_, fun h => ?_⟩
    · have q := of_decide_eq_true (hb1.symm.trans h)
      exact ⟨st [118, 111, 105, 100] _ (ty0 1 (by omega) q.1 q.2) (by rw [q.1]; rfl) rfl, rfl⟩
    have n1 := of_decide_eq_false (hb1.symm.trans h)
    refine ⟨Bool, fun b => [(1, .box 1 0), (12, B b)], fun _ => [(1, tyC (k, s))], fun b => b = decide (k = 2 ∧ s = noS), ?_, fun b1 hb1 => ?_⟩
    · refine ⟨fun h1 => ?_, fun h1 => ?_⟩
      · exact ⟨_, one 2 h1, ⟨rfl, rfl⟩, .refl _, .refl _, ⟨.refl _, .refl _, trivial⟩, trivial⟩
      · exact ⟨false, two 2 h1, ⟨rfl, rfl⟩, .refl _, .bff rfl, ⟨.refl _, .refl _, trivial⟩, trivial⟩
    refine ⟨fun h => ?_, fun h => ?_⟩
    · have q := of_decide_eq_true (hb1.symm.trans h)
      exact ⟨st [105, 110, 116] _ (ty0 2 (by omega) q.1 q.2) (by rw [q.1]; rfl) rfl, rfl⟩
    have n2 := of_decide_eq_false (hb1.symm.trans h)
    refine ⟨Bool, fun b => [(1, .box 1 0), (21, B b)], fun _ => [(1, tyC (k, s))], fun b => b = decide (k = 4 ∧ s = noS), ?_, fun b1 hb1 => ?_⟩
    · refine ⟨fun h1 => ?_, fun h1 => ?_⟩
      · exact ⟨_, one 4 h1, ⟨rfl, rfl⟩, .refl _, .refl _, ⟨.refl _, .refl _, trivial⟩, trivial⟩
      · exact ⟨false, two 4 h1, ⟨rfl, rfl⟩, .refl _, .bff rfl, ⟨.refl _, .refl _, trivial⟩, trivial⟩
    refine ⟨fun h => ?_, fun h => ?_⟩
    · have q := of_decide_eq_true (hb1.symm.trans h)
      exact ⟨st [105, 110, 116, 91, 93] _ (ty0 4 (by omega) q.1 q.2) (by rw [q.1]; rfl) rfl, rfl⟩
    have n3 := of_decide_eq_false (hb1.symm.trans h)
    refine ⟨Bool, fun b => [(1, .box 1 0), (30, B b)], fun _ => [(1, tyC (k, s))], fun b => b = decide (k = 3 ∧ freshW s = true), ?_, fun b1 hb1 => ?_⟩
    · refine ⟨fun h1 => ?_, fun h1 => ?_⟩
      · refine ⟨s, ⟨.refl _, trivial⟩, rfl, hd, ?_⟩
        exact ⟨_, one' 3 h1, ⟨rfl, rfl⟩, .refl _, .refl _, ⟨.refl _, .refl _, trivial⟩, trivial⟩
      · exact ⟨false, two' 3 h1, ⟨rfl, rfl⟩, .refl _, .bff rfl, ⟨.refl _, .refl _, trivial⟩, trivial⟩
    refine ⟨fun h => ?_, fun h => ?_⟩
    · have q := of_decide_eq_true (hb1.symm.trans h)
      exact ⟨st s.data.toList _ (ty1 3 (by omega) q.1 q.2) (by rw [q.1]; show _ = sjoinF [s] ⟨#[]⟩; unfold sjoinF; simp [Lib.join_cons, Lib.joinTail]) rfl, rfl⟩
    have n4 := of_decide_eq_false (hb1.symm.trans h)
    refine ⟨Bool, fun b => [(1, .box 1 0), (41, B b)], fun _ => [(1, tyC (k, s))], fun b => b = decide (k = 5 ∧ freshW s = true), ?_, fun b1 hb1 => ?_⟩
    · refine ⟨fun h1 => ?_, fun h1 => ?_⟩
      · refine ⟨s, ⟨.refl _, trivial⟩, rfl, hd, ?_⟩
        exact ⟨_, one' 5 h1, ⟨rfl, rfl⟩, .refl _, .refl _, ⟨.refl _, .refl _, trivial⟩, trivial⟩
      · exact ⟨false, two' 5 h1, ⟨rfl, rfl⟩, .refl _, .bff rfl, ⟨.refl _, .refl _, trivial⟩, trivial⟩
    refine ⟨fun h => ?_, fun h => ?_⟩
    · have q := of_decide_eq_true (hb1.symm.trans h)
      have hz : s.size ≤ 20 := by
        have h := q.2
        unfold freshW freshF at h
        rw [Bool.and_eq_true] at h
        have := (name_form.1 h.1)
        obtain ⟨c, r, e, -, -, hl⟩ := this
        rw [← sz_len]; exact hl
      refine ⟨(show s.size + (⟨#[91, 93]⟩ : ByteArray).size < 4611686018427387904 by show s.size + 2 < _; omega), ?_⟩
      exact ⟨st (s.data.toList ++ [91, 93]) _ (ty1 5 (by omega) q.1 q.2) (by rw [q.1]; show _ = sjoinF [s, ⟨#[91]⟩, ⟨#[93]⟩] ⟨#[]⟩; unfold sjoinF; simp [Lib.join_cons, Lib.joinTail]) (by rw [← ba_eta (s ++ _)]; congr 1), rfl⟩
    have n5 := of_decide_eq_false (hb1.symm.trans h)
    have hn : ttL (k, s) = [] := by
      show (typeF k s.data.toList).1 = []
      unfold typeF
      rw [if_neg]
      intro c
      unfold typedF at c
      split at c
      · rename_i hj
        have := ba_nil.2 (of_decide_eq_true c)
        rcases hj with q | q | q
        · exact n1 ⟨q, this⟩
        · exact n2 ⟨q, this⟩
        · exact n3 ⟨q, this⟩
      · split at c
        · rename_i hj
          rcases hj with q | q
          · exact n4 ⟨q, c⟩
          · exact n5 ⟨q, c⟩
        · cases c
    exact ⟨(show Sub _ (X (ttL (k, s))) by rw [hn]; exact .str rfl), rfl⟩
def eS (s : ByteArray) : Bool := s.toList == (⟨#[]⟩ : ByteArray).toList
theorem eS_named {s : ByteArray} : namedF s.data.toList false = eS s := by
  unfold eS
  rw [ba_eq]
  show decide (s.data.toList = []) = decide (s = noS)
  exact decide_eq_decide.2 ba_nil.symm
def insR (x : Ins) : Bool := inF x.op 0 43 && (if shapeF x.op = 1 then inF x.n (-2147483648) 2147483647 && (eS x.a && eS x.b) else if shapeF x.op = 2 then inF x.n 0 7 && (eS x.a && eS x.b) else if shapeF x.op = 3 then inF x.n 0 47 && (eS x.a && eS x.b) else if shapeF x.op = 4 then (x.n == 0) && (freshW x.a && eS x.b) else if shapeF x.op = 5 then (x.n == 0) && (freshW x.a && freshW x.b) else (x.n == 0) && (eS x.a && eS x.b))
def shapeQ (k : Int) : Nat := if shapeF k = 1 ∧ numsF k = (-2147483648, 2147483647, true) ∧ namesF k = 0 then 1 else if shapeF k = 2 ∧ numsF k = (0, 7, true) ∧ namesF k = 0 then 2 else if shapeF k = 3 ∧ numsF k = (0, 47, true) ∧ namesF k = 0 then 3 else if shapeF k = 4 ∧ numsF k = (0, 0, false) ∧ namesF k = 1 then 4 else if shapeF k = 5 ∧ numsF k = (0, 0, false) ∧ namesF k = 2 then 5 else if shapeF k = 0 ∧ numsF k = (0, 0, false) ∧ namesF k = 0 then 6 else 0
theorem shape_Q : ∀ k : Nat, k < 44 → shapeQ k ≠ 0 := by decide +kernel
theorem shape_nums (k : Nat) (h : k < 44) : (shapeF k = 1 ∧ numsF k = (-2147483648, 2147483647, true) ∧ namesF k = 0) ∨ (shapeF k = 2 ∧ numsF k = (0, 7, true) ∧ namesF k = 0) ∨ (shapeF k = 3 ∧ numsF k = (0, 47, true) ∧ namesF k = 0) ∨
    (shapeF k = 4 ∧ numsF k = (0, 0, false) ∧ namesF k = 1) ∨ (shapeF k = 5 ∧ numsF k = (0, 0, false) ∧ namesF k = 2) ∨ (shapeF k = 0 ∧ numsF k = (0, 0, false) ∧ namesF k = 0) := by
  have := shape_Q k h
  unfold shapeQ at this
  split at this
  · exact .inl ‹_›
  · split at this
    · exact .inr (.inl ‹_›)
    · split at this
      · exact .inr (.inr (.inl ‹_›))
      · split at this
        · exact .inr (.inr (.inr (.inl ‹_›)))
        · split at this
          · exact .inr (.inr (.inr (.inr (.inl ‹_›))))
          · split at this
            · exact .inr (.inr (.inr (.inr (.inr ‹_›))))
            · exact absurd rfl this
theorem in_zero (n : Int) : inF n 0 0 = (n == 0) := by
  unfold inF
  rw [Bool.eq_iff_iff]; simp; omega
theorem insR_eq (x : Ins) : insOk x = insR x := by
  unfold insOk instrF insR
  cases h : inF x.op 0 43 with
  | false => rfl
  | true =>
    have h2 := of_decide_eq_true h
    obtain ⟨k, hk⟩ : ∃ k : Nat, x.op = k := ⟨x.op.toNat, by omega⟩
    have hz := shape_nums k (by omega)
    rw [hk]
    have f1 : namedF x.a.data.toList true = freshW x.a := rfl
    have f2 : namedF x.b.data.toList true = freshW x.b := rfl
    rcases hz with ⟨a, b, c⟩ | ⟨a, b, c⟩ | ⟨a, b, c⟩ | ⟨a, b, c⟩ | ⟨a, b, c⟩ | ⟨a, b, c⟩ <;> rw [a, b, c] <;> simp [eS_named, f1, f2, in_zero, Bool.and_assoc]
abbrev rinsC : Ctr := { A := Ins, enc := fun x => [.agg (insC x)], dom := insD, res := fun x _ => B (insOk x) }
set_option maxRecDepth 100000 in
theorem rins_ok : CtrSound Tryz.prog 47 rinsC :=
  ctr_of_ax (env_ok tys_ok (eqs := []) trivial (cs := [(29, rfreshC), (46, rinC), (58, rshapeC)]) ⟨rfresh_ok, rin_ok, rshape_ok, trivial⟩) mixed _ Tryz.func47 (by kernel_rfl) rfl (fun _ _ => Nat.le_of_ble_eq_true rfl) fun (x : Ins) id hd => by
    obtain ⟨hd1, hd2⟩ : insD x := hd
    refine ⟨(x.op, 0, 43), ⟨.refl _, .refl _, .refl _, trivial⟩, rfl, trivial, ?_⟩
    have fin : ∀ s b, b = insR x → Sub s (B b) → Sub s (B (insOk x)) := fun s b h k => by rw [insR_eq, ← h]; exact k
    refine ⟨fun h => ⟨fin _ false (by unfold insR; rw [show inF x.op 0 43 = false by simpa using h]; rfl) (.bff rfl), rfl⟩, fun h => ?_⟩
    have h0 : inF x.op 0 43 = true := by simpa using h
    refine ⟨x.op, ⟨.refl _, trivial⟩, rfl, trivial, ?_⟩
    refine ⟨fun s1 => ?_, fun s1 => ?_⟩
    · have e : insR x = (inF x.n (-2147483648) 2147483647 && (eS x.a && eS x.b)) := by unfold insR; rw [h0, if_pos (eqT s1)]; rfl
      refine ⟨(x.n, -2147483648, 2147483647), ⟨.refl _, .refl _, .refl _, trivial⟩, rfl, trivial, ?_⟩
      refine ⟨fun h1 => ?_, fun h1 => ⟨fin _ false (by rw [e, show inF x.n (-2147483648) 2147483647 = false from h1]; rfl) (.bff rfl), rfl⟩⟩
      refine ⟨fun h2 => ?_, fun h2 => ⟨fin _ false (by rw [e, show eS x.a = false from h2]; simp) (.bff rfl), rfl⟩⟩
      exact ⟨fin _ (eS x.b) (by rw [e, show inF x.n (-2147483648) 2147483647 = true from h1, show eS x.a = true from h2]; rfl) (.refl _), rfl⟩
    refine ⟨fun s2 => ?_, fun s2 => ?_⟩
    · have e : insR x = (inF x.n 0 7 && (eS x.a && eS x.b)) := by unfold insR; rw [h0, if_neg (eqF s1), if_pos (eqT s2)]; rfl
      refine ⟨(x.n, 0, 7), ⟨.refl _, .refl _, .refl _, trivial⟩, rfl, trivial, ?_⟩
      refine ⟨fun h1 => ?_, fun h1 => ⟨fin _ false (by rw [e, show inF x.n 0 7 = false from h1]; rfl) (.bff rfl), rfl⟩⟩
      refine ⟨fun h2 => ?_, fun h2 => ⟨fin _ false (by rw [e, show eS x.a = false from h2]; simp) (.bff rfl), rfl⟩⟩
      exact ⟨fin _ (eS x.b) (by rw [e, show inF x.n 0 7 = true from h1, show eS x.a = true from h2]; rfl) (.refl _), rfl⟩
    refine ⟨fun s3 => ?_, fun s3 => ?_⟩
    · have e : insR x = (inF x.n 0 47 && (eS x.a && eS x.b)) := by unfold insR; rw [h0, if_neg (eqF s1), if_neg (eqF s2), if_pos (eqT s3)]; rfl
      refine ⟨(x.n, 0, 47), ⟨.refl _, .refl _, .refl _, trivial⟩, rfl, trivial, ?_⟩
      refine ⟨fun h1 => ?_, fun h1 => ⟨fin _ false (by rw [e, show inF x.n 0 47 = false from h1]; rfl) (.bff rfl), rfl⟩⟩
      refine ⟨fun h2 => ?_, fun h2 => ⟨fin _ false (by rw [e, show eS x.a = false from h2]; simp) (.bff rfl), rfl⟩⟩
      exact ⟨fin _ (eS x.b) (by rw [e, show inF x.n 0 47 = true from h1, show eS x.a = true from h2]; rfl) (.refl _), rfl⟩
    refine ⟨fun s4 => ?_, fun s4 => ?_⟩
    · have e : insR x = ((x.n == 0) && (freshW x.a && eS x.b)) := by unfold insR; rw [h0, if_neg (eqF s1), if_neg (eqF s2), if_neg (eqF s3), if_pos (eqT s4)]; rfl
      refine ⟨fun h1 => ?_, fun h1 => ⟨fin _ false (by rw [e, show (x.n == 0) = false from h1]; rfl) (.bff rfl), rfl⟩⟩
      refine ⟨x.a, ⟨.refl _, trivial⟩, rfl, hd1, ?_⟩
      refine ⟨fun h2 => ?_, fun h2 => ⟨fin _ false (by rw [e, show freshW x.a = false from h2]; simp) (.bff rfl), rfl⟩⟩
      exact ⟨fin _ (eS x.b) (by rw [e, show (x.n == 0) = true from h1, show freshW x.a = true from h2]; rfl) (.refl _), rfl⟩
    refine ⟨fun s5 => ?_, fun s5 => ?_⟩
    · have e : insR x = ((x.n == 0) && (freshW x.a && freshW x.b)) := by unfold insR; rw [h0, if_neg (eqF s1), if_neg (eqF s2), if_neg (eqF s3), if_neg (eqF s4), if_pos (eqT s5)]; rfl
      refine ⟨fun h1 => ?_, fun h1 => ⟨fin _ false (by rw [e, show (x.n == 0) = false from h1]; rfl) (.bff rfl), rfl⟩⟩
      refine ⟨x.a, ⟨.refl _, trivial⟩, rfl, hd1, ?_⟩
      refine ⟨fun h2 => ?_, fun h2 => ⟨fin _ false (by rw [e, show freshW x.a = false from h2]; simp) (.bff rfl), rfl⟩⟩
      refine ⟨x.b, ⟨.refl _, trivial⟩, rfl, hd2, ?_⟩
      exact ⟨fin _ (freshW x.b) (by rw [e, show (x.n == 0) = true from h1, show freshW x.a = true from h2]; rfl) (.refl _), rfl⟩
    have e : insR x = ((x.n == 0) && (eS x.a && eS x.b)) := by unfold insR; rw [h0, if_neg (eqF s1), if_neg (eqF s2), if_neg (eqF s3), if_neg (eqF s4), if_neg (eqF s5)]; rfl
    refine ⟨fun h1 => ?_, fun h1 => ⟨fin _ false (by rw [e, show (x.n == 0) = false from h1]; rfl) (.bff rfl), rfl⟩⟩
    refine ⟨fun h2 => ?_, fun h2 => ⟨fin _ false (by rw [e, show eS x.a = false from h2]; simp) (.bff rfl), rfl⟩⟩
    exact ⟨fin _ (eS x.b) (by rw [e, show (x.n == 0) = true from h1, show eS x.a = true from h2]; rfl) (.refl _), rfl⟩
end Go.Proofs.YtadimoijlgmecaaGreatDoor.Ax
/- The reference of layers 1 to 3: methods, programs that can be shown. -/
set_option linter.unusedVariables false
set_option linter.unusedSimpArgs false
namespace Go.Proofs.YtadimoijlgmecaaGreatDoor.Ax
open Go Go.RowKit
theorem all_takeT {α : Type} {f : α → Bool} {l : List α} {d : α} {i : Nat} (hi : i < l.length) (h : (l.take i).all f = true) (hx : f (l.getD i d) = true) : (l.take (i + 1)).all f = true := by
  rw [takeT l d i hi, List.all_append, h]; simpa using hx
theorem all_badT {α : Type} {f : α → Bool} {l : List α} {d : α} {i : Nat} (hi : i < l.length) (hx : f (l.getD i d) = false) : l.all f = false := by
  rw [Bool.eq_false_iff]; intro c
  have := List.all_eq_true.1 c _ (getT_mem l d i hi)
  rw [hx] at this; cases this
theorem all_endT {α : Type} {f : α → Bool} {l : List α} {i : Nat} (hi : l.length ≤ i) (h : (l.take i).all f = true) : l.all f = true := by
  rwa [List.take_of_length_le hi] at h
abbrev rmethC : Ctr := { A := Meth, enc := fun m => [.agg (methC m)], dom := methD, res := fun m _ => B (methOk m) }
set_option maxRecDepth 100000 in
set_option maxHeartbeats 2000000 in
theorem rmeth_ok : CtrSound Tryz.prog 30 rmethC :=
  ctr_of_ax (env_okB tys_ok (eqs := []) trivial (cs := [(29, rfreshC), (12, rttC), (46, rinC), (47, rinsC)]) ⟨rfresh_ok, rtt_ok, rin_ok, rins_ok, trivial⟩ (bs := []) trivial (cut := [5])) mixed _ Tryz.func30 (by kernel_rfl) rfl (fun _ _ => Nat.le_of_ble_eq_true rfl) fun (m : Meth) id hd => by
    obtain ⟨hd1, hd2, ⟨hp1, hp2⟩, ⟨hc1, hc2⟩, hk1, hk2⟩ : methD m := hd
    have noR : methR m = false → methOk m = false := fun h => by rw [methOk_eq, h]; simp
    refine ⟨m.name, ⟨.refl _, trivial⟩, rfl, hd1, ?_⟩
    refine ⟨fun h => ⟨.bff (noR (by unfold methR; rw [show freshW m.name = false by simpa using h]; rfl)), rfl⟩, fun h => ?_⟩
    have k1 : freshW m.name = true := by simpa using h
    refine ⟨fun h => ⟨.bff (noR (by unfold methR; rw [show decide (m.params.length ≤ 4) = false by have h := of_decide_eq_true h; exact decide_eq_false (by omega)]; simp)), rfl⟩, fun h => ?_⟩
    have k2 : m.params.length ≤ 4 := by have h := of_decide_eq_false h; omega
    refine ⟨m.ret, ⟨.refl _, trivial⟩, rfl, hd2, ?_⟩
    refine ⟨fun h => ⟨.bff (noR (by have h := ttL_no.symm.trans h; unfold methR; rw [show tyOk m.ret = false by simpa using h]; simp)), rfl⟩, fun h => ?_⟩
    have k3 : tyOk m.ret = true := by have h := ttL_no.symm.trans h; simpa using h
    refine ⟨fun h => ⟨.bff (noR (by unfold methR; rw [show decide (m.code.length ≤ 48) = false by have h := of_decide_eq_true h; exact decide_eq_false (by omega)]; simp)), rfl⟩, fun h => ?_⟩
    have k4 : m.code.length ≤ 48 := by have h := of_decide_eq_false h; omega
    refine ⟨fun h => ⟨.bff (noR (by unfold methR; rw [show decide (m.catches.length ≤ 4) = false by have h := of_decide_eq_true h; exact decide_eq_false (by omega)]; simp)), rfl⟩, fun h => ?_⟩
    have k5 : m.catches.length ≤ 4 := by have h := of_decide_eq_false h; omega
    refine ⟨(m.locals, 0, 8), ⟨.refl _, .refl _, .refl _, trivial⟩, rfl, trivial, ?_⟩
    refine ⟨fun h => ⟨.bff (noR (by unfold methR; rw [show inF m.locals 0 8 = false by simpa using h]; simp)), rfl⟩, fun h => ?_⟩
    have k6 : inF m.locals 0 8 = true := by simpa using h
    obtain ⟨k7, k8⟩ : 0 ≤ m.locals ∧ m.locals ≤ 8 := of_decide_eq_true k6
    have w1 : IntKind.i64.wrap (m.locals + (m.code.length : Int)) = m.locals + (m.code.length : Int) := wrap_eq _ (by omega) (by omega)
    have w2 : IntKind.i64.wrap (IntKind.i64.wrap (m.locals + (m.code.length : Int)) + (m.catches.length : Int)) = m.locals + (m.code.length : Int) + (m.catches.length : Int) := by rw [w1]; exact wrap_eq _ (by omega) (by omega)
    refine ⟨Unit, fun _ => [(1, .box 1 0)], fun _ => [(1, methC m)], fun _ => methL m = false, ?_, fun _ hL => ?_⟩
    · refine ⟨fun h => ?_, fun h => ?_⟩
      · have ha : m.abs = true := h
        refine ⟨fun h => ?_, fun h => ?_⟩
        · have h : decide (IntKind.i64.wrap (IntKind.i64.wrap (m.locals + (m.code.length : Int)) + (m.catches.length : Int)) > 0) = true := h
          rw [w2] at h
          have h := of_decide_eq_true h
          exact ⟨.bff (by
            rw [methOk_eq]
            have : methL m = true := by
              unfold methL
              rw [ha]
              by_cases q : m.locals = 0
              · rw [decide_eq_true (show m.code.length + m.catches.length > 0 by omega)]; simp
              · simp [q]
            rw [this]; rfl), rfl⟩
        · have h : decide (IntKind.i64.wrap (IntKind.i64.wrap (m.locals + (m.code.length : Int)) + (m.catches.length : Int)) > 0) = false := h
          rw [w2] at h
          have h := of_decide_eq_false h
          exact ⟨(), (by
            unfold methL
            rw [decide_eq_false (show ¬ m.code.length + m.catches.length > 0 by omega), show decide (m.locals ≠ 0) = false from decide_eq_false (by omega)]; simp), ⟨rfl, rfl⟩, .refl _, ⟨.refl _, .refl _, .refl _, .refl _, .refl _, .refl _, .refl _, .refl _, .refl _, trivial⟩, trivial⟩
      · have ha : m.abs = false := h
        exact ⟨(), (by unfold methL; rw [ha]; rfl), ⟨rfl, rfl⟩, .refl _, ⟨.refl _, .refl _, .refl _, .refl _, .refl _, .refl _, .refl _, .refl _, .refl _, trivial⟩, trivial⟩
    have hL : methL m = false := hL
    refine ⟨Nat, fun i => [(1, .box 1 0), (3, I i)], fun _ => [(1, methC m)], fun i => i ≤ m.params.length ∧ (m.params.take i).all tyOk = true, fun i => m.params.length - i,
      ⟨0, ⟨Nat.zero_le _, rfl⟩, ⟨⟨rfl, rfl⟩, .refl _, .refl _, ⟨.refl _, .refl _, .refl _, .refl _, .refl _, .refl _, .refl _, .refl _, .refl _, trivial⟩, trivial⟩⟩, fun (i : Nat) hi => ?_⟩
    have hi1 : i ≤ m.params.length := hi.1
    have hwj : IntKind.i64.wrap ((i : Int) + 1) = ((i + 1 : Nat) : Int) := by rw [wrap_eq _ (by omega) (by omega)]; omega
    refine ⟨fun h => ?_, fun h => ?_⟩
    · have hlt : i < m.params.length := dlt h
      refine ⟨⟨by omega, by omega⟩, ?_⟩
      refine ⟨m.params.getD i ty0, ⟨.refl _, trivial⟩, rfl, hp2 _ (getT_mem _ _ _ hlt), ?_⟩
      refine ⟨fun h => ⟨.bff (noR (by have h := ttL_no.symm.trans h; unfold methR; rw [all_badT hlt (show tyOk (m.params.getD i ty0) = false by simpa using h)]; simp)), rfl⟩, fun h => ?_⟩
      have h := ttL_no.symm.trans h
      exact ⟨i + 1, ⟨hlt, all_takeT hlt hi.2 (by simpa using h)⟩, by show m.params.length - (i + 1) < m.params.length - i; omega, ⟨rfl, rfl⟩, .refl _, .int hwj, ⟨.refl _, .refl _, .refl _, .refl _, .refl _, .refl _, .refl _, .refl _, .refl _, trivial⟩, trivial⟩
    have a1 := all_endT (dge h) hi.2
    refine ⟨Nat, fun i => [(1, .box 1 0), (4, I i)], fun _ => [(1, methC m)], fun i => i ≤ m.code.length ∧ (m.code.take i).all insOk = true, fun i => m.code.length - i,
      ⟨0, ⟨Nat.zero_le _, rfl⟩, ⟨⟨rfl, rfl⟩, .refl _, .refl _, ⟨.refl _, .refl _, .refl _, .refl _, .refl _, .refl _, .refl _, .refl _, .refl _, trivial⟩, trivial⟩⟩, fun (i : Nat) hi => ?_⟩
    have hi1 : i ≤ m.code.length := hi.1
    have hwj : IntKind.i64.wrap ((i : Int) + 1) = ((i + 1 : Nat) : Int) := by rw [wrap_eq _ (by omega) (by omega)]; omega
    refine ⟨fun h => ?_, fun h => ?_⟩
    · have hlt : i < m.code.length := dlt h
      refine ⟨⟨by omega, by omega⟩, ?_⟩
      refine ⟨m.code.getD i ins0, ⟨.refl _, trivial⟩, rfl, hc2 _ (getT_mem _ _ _ hlt), ?_⟩
      refine ⟨fun h => ⟨.bff (noR (by unfold methR; rw [all_badT hlt (show insOk (m.code.getD i ins0) = false by simpa using h)]; simp)), rfl⟩, fun h => ?_⟩
      exact ⟨i + 1, ⟨hlt, all_takeT hlt hi.2 (by simpa using h)⟩, by show m.code.length - (i + 1) < m.code.length - i; omega, ⟨rfl, rfl⟩, .refl _, .int hwj, ⟨.refl _, .refl _, .refl _, .refl _, .refl _, .refl _, .refl _, .refl _, .refl _, trivial⟩, trivial⟩
    have a2 := all_endT (dge h) hi.2
    refine ⟨Nat, fun i => [(1, .box 1 0), (5, I i)], fun _ => [(1, methC m)], fun i => i ≤ m.catches.length ∧ (m.catches.take i).all catOk = true, fun i => m.catches.length - i,
      ⟨0, ⟨Nat.zero_le _, rfl⟩, ⟨⟨rfl, rfl⟩, .refl _, .refl _, ⟨.refl _, .refl _, .refl _, .refl _, .refl _, .refl _, .refl _, .refl _, .refl _, trivial⟩, trivial⟩⟩, fun (i : Nat) hi => ?_⟩
    have hi1 : i ≤ m.catches.length := hi.1
    have hwj : IntKind.i64.wrap ((i : Int) + 1) = ((i + 1 : Nat) : Int) := by rw [wrap_eq _ (by omega) (by omega)]; omega
    refine ⟨fun h => ?_, fun h => ?_⟩
    · have hlt : i < m.catches.length := dlt h
      have bad : catOk (m.catches.getD i cat0) = false → methOk m = false := fun q => noR (by unfold methR; rw [all_badT hlt q]; simp)
      have un : catOk (m.catches.getD i cat0) = (freshW (m.catches.getD i cat0).name && inF (m.catches.getD i cat0).fr 0 48 && inF (m.catches.getD i cat0).up 0 48 && inF (m.catches.getD i cat0).at' 0 48) := rfl
      refine ⟨⟨by omega, by omega⟩, ?_⟩
      refine ⟨(m.catches.getD i cat0).name, ⟨.refl _, trivial⟩, rfl, hk2 _ (getT_mem _ _ _ hlt), ?_⟩
      refine ⟨fun h => ⟨.bff (bad (by rw [un, show freshW (m.catches.getD i cat0).name = false by simpa using h]; rfl)), rfl⟩, fun c1 => ?_⟩
      refine ⟨((m.catches.getD i cat0).fr, 0, 48), ⟨.refl _, .refl _, .refl _, trivial⟩, rfl, trivial, ?_⟩
      refine ⟨fun h => ⟨.bff (bad (by rw [un, show inF (m.catches.getD i cat0).fr 0 48 = false by simpa using h]; simp)), rfl⟩, fun c2 => ?_⟩
      refine ⟨((m.catches.getD i cat0).up, 0, 48), ⟨.refl _, .refl _, .refl _, trivial⟩, rfl, trivial, ?_⟩
      refine ⟨fun h => ⟨.bff (bad (by rw [un, show inF (m.catches.getD i cat0).up 0 48 = false by simpa using h]; simp)), rfl⟩, fun c3 => ?_⟩
      refine ⟨((m.catches.getD i cat0).at', 0, 48), ⟨.refl _, .refl _, .refl _, trivial⟩, rfl, trivial, ?_⟩
      refine ⟨fun h => ⟨.bff (bad (by rw [un, show inF (m.catches.getD i cat0).at' 0 48 = false by simpa using h]; simp)), rfl⟩, fun c4 => ?_⟩
      exact ⟨i + 1, ⟨hlt, all_takeT hlt hi.2 (by rw [un, show freshW (m.catches.getD i cat0).name = true by simpa using c1, show inF (m.catches.getD i cat0).fr 0 48 = true by simpa using c2, show inF (m.catches.getD i cat0).up 0 48 = true by simpa using c3, show inF (m.catches.getD i cat0).at' 0 48 = true by simpa using c4]; rfl)⟩, by show m.catches.length - (i + 1) < m.catches.length - i; omega, ⟨rfl, rfl⟩, .refl _, .int hwj, ⟨.refl _, .refl _, .refl _, .refl _, .refl _, .refl _, .refl _, .refl _, .refl _, trivial⟩, trivial⟩
    have a3 := all_endT (dge h) hi.2
    exact ⟨.btt (by rw [methOk_eq, hL]; unfold methR; rw [k1, decide_eq_true k2, a1, k3, k6, decide_eq_true k4, a2, decide_eq_true k5, a3]; rfl), rfl⟩
abbrev rshownC : Ctr := { A := List Cls, enc := fun p => [.agg [prgR p]], dom := prgD, res := fun p _ => B (prgOk p) }
set_option maxRecDepth 100000 in
set_option maxHeartbeats 2000000 in
theorem rshown_ok : CtrSound Tryz.prog 13 rshownC :=
  ctr_of_ax (env_okB tys_ok (eqs := []) trivial (cs := [(29, rfreshC), (12, rttC), (30, rmethC)]) ⟨rfresh_ok, rtt_ok, rmeth_ok, trivial⟩ (bs := []) trivial (cut := [9])) mixed _ Tryz.func13 (by kernel_rfl) rfl (fun _ _ => Nat.le_of_ble_eq_true rfl) fun (p : List Cls) id hd => by
    obtain ⟨hd1, hd2⟩ : prgD p := hd
    refine ⟨fun h => ⟨.bff (by unfold prgOk; rw [show decide (p.length ≤ 10) = false by have h := of_decide_eq_true h; exact decide_eq_false (by omega)]; rfl), rfl⟩, fun h => ?_⟩
    have k0 : p.length ≤ 10 := by have h := of_decide_eq_false h; omega
    refine ⟨Nat, fun i => [(1, .box 1 0), (3, I i)], fun _ => [(1, [prgR p])], fun i => i ≤ p.length ∧ (p.take i).all clsOk = true, fun i => p.length - i,
      ⟨0, ⟨Nat.zero_le _, rfl⟩, ⟨⟨rfl, rfl⟩, .refl _, .refl _, ⟨.refl _, trivial⟩, trivial⟩⟩, fun (i : Nat) hi => ?_⟩
    have hi1 : i ≤ p.length := hi.1
    have hwj : IntKind.i64.wrap ((i : Int) + 1) = ((i + 1 : Nat) : Int) := by rw [wrap_eq _ (by omega) (by omega)]; omega
    refine ⟨fun h => ?_, fun h => ⟨.btt (by unfold prgOk; rw [decide_eq_true k0, all_endT (dge h) hi.2]; rfl), rfl⟩⟩
    have hlt : i < p.length := dlt h
    obtain ⟨c, hc⟩ : ∃ c, c = p.getD i cls0 := ⟨_, rfl⟩
    have hcm : c ∈ p := by rw [hc]; exact getT_mem _ _ _ hlt
    obtain ⟨d1, d2, ⟨d3, d4⟩, ⟨d5, d6⟩, d7, d8⟩ : clsD c := hd2 _ hcm
    have bad : clsOk c = false → prgOk p = false := fun q => by unfold prgOk; rw [all_badT (d := cls0) hlt (by rw [← hc]; exact q)]; simp
    have hns : (c.super.toList == (⟨#[]⟩ : ByteArray).toList) = decide (c.super = noS) := ba_eq _ _
    refine ⟨⟨by omega, by omega⟩, ?_⟩
    refine ⟨Unit, fun _ => [(1, .box 1 0), (3, I i), (4, .box 4 0)], fun _ => [(1, [prgR p]), (4, clsC c)], fun _ => freshW c.name = true ∧ (decide (c.super = noS) || (!c.iface && freshW c.super)) = true ∧ c.ifaces.length ≤ 4 ∧ c.fields.length ≤ 6 ∧ c.methods.length ≤ 6, ?_, fun _ hL => ?_⟩
    · subst hc
      refine ⟨(p.getD i cls0).name, ⟨.refl _, trivial⟩, rfl, d1, ?_⟩
      refine ⟨fun h => ⟨.bff (bad (by unfold clsOk; rw [show freshW (p.getD i cls0).name = false by simpa using h]; rfl)), rfl⟩, fun c1 => ?_⟩
      have c1 : freshW (p.getD i cls0).name = true := by simpa using c1
      have rest : ∀ P : Prop, ((p.getD i cls0).ifaces.length ≤ 4 → (p.getD i cls0).fields.length ≤ 6 → (p.getD i cls0).methods.length ≤ 6 → P) → True := fun _ _ => trivial
      refine ⟨fun s1 => ?_, fun s1 => ?_⟩
      · have s1 : (p.getD i cls0).super ≠ noS := by
          have s1 : (!((p.getD i cls0).super.toList == (⟨#[]⟩ : ByteArray).toList)) = true := s1
          rw [hns] at s1; simpa using s1
        refine ⟨fun s2 => ⟨.bff (bad (by unfold clsOk; rw [show decide ((p.getD i cls0).super = noS) = false from decide_eq_false s1, show (p.getD i cls0).iface = true from s2]; simp)), rfl⟩, fun s2 => ?_⟩
        refine ⟨(p.getD i cls0).super, ⟨.refl _, trivial⟩, rfl, d2, ?_⟩
        refine ⟨fun s3 => ⟨.bff (bad (by unfold clsOk; rw [show decide ((p.getD i cls0).super = noS) = false from decide_eq_false s1, show freshW (p.getD i cls0).super = false by simpa using s3]; simp)), rfl⟩, fun s3 => ?_⟩
        have c2 : (decide ((p.getD i cls0).super = noS) || (!(p.getD i cls0).iface && freshW (p.getD i cls0).super)) = true := by rw [show freshW (p.getD i cls0).super = true by simpa using s3, show (p.getD i cls0).iface = false from s2]; simp
        refine ⟨fun h => ⟨.bff (bad (by unfold clsOk; rw [show decide ((p.getD i cls0).ifaces.length ≤ 4) = false by have h : decide (((p.getD i cls0).ifaces.length : Int) > 4) = true := h; have h := of_decide_eq_true h; exact decide_eq_false (by omega)]; simp)), rfl⟩, fun c3 => ?_⟩
        refine ⟨fun h => ⟨.bff (bad (by unfold clsOk; rw [show decide ((p.getD i cls0).fields.length ≤ 6) = false by have h : decide (((p.getD i cls0).fields.length : Int) > 6) = true := h; have h := of_decide_eq_true h; exact decide_eq_false (by omega)]; simp)), rfl⟩, fun c4 => ?_⟩
        refine ⟨fun h => ⟨.bff (bad (by unfold clsOk; rw [show decide ((p.getD i cls0).methods.length ≤ 6) = false by have h : decide (((p.getD i cls0).methods.length : Int) > 6) = true := h; have h := of_decide_eq_true h; exact decide_eq_false (by omega)]; simp)), rfl⟩, fun c5 => ?_⟩
        exact ⟨(), ⟨c1, c2, (by have h : decide (((p.getD i cls0).ifaces.length : Int) > 4) = false := c3; have h := of_decide_eq_false h; omega), (by have h : decide (((p.getD i cls0).fields.length : Int) > 6) = false := c4; have h := of_decide_eq_false h; omega), (by have h : decide (((p.getD i cls0).methods.length : Int) > 6) = false := c5; have h := of_decide_eq_false h; omega)⟩, ⟨rfl, rfl⟩, .refl _, .refl _, .refl _, ⟨.refl _, trivial⟩, ⟨.refl _, .refl _, .refl _, .refl _, .refl _, .refl _, trivial⟩, trivial⟩
      · have s1 : (p.getD i cls0).super = noS := by
          have s1 : (!((p.getD i cls0).super.toList == (⟨#[]⟩ : ByteArray).toList)) = false := s1
          rw [hns] at s1; simpa using s1
        have c2 : (decide ((p.getD i cls0).super = noS) || (!(p.getD i cls0).iface && freshW (p.getD i cls0).super)) = true := by rw [show decide ((p.getD i cls0).super = noS) = true from decide_eq_true s1]; rfl
        refine ⟨fun h => ⟨.bff (bad (by unfold clsOk; rw [show decide ((p.getD i cls0).ifaces.length ≤ 4) = false by have h : decide (((p.getD i cls0).ifaces.length : Int) > 4) = true := h; have h := of_decide_eq_true h; exact decide_eq_false (by omega)]; simp)), rfl⟩, fun c3 => ?_⟩
        refine ⟨fun h => ⟨.bff (bad (by unfold clsOk; rw [show decide ((p.getD i cls0).fields.length ≤ 6) = false by have h : decide (((p.getD i cls0).fields.length : Int) > 6) = true := h; have h := of_decide_eq_true h; exact decide_eq_false (by omega)]; simp)), rfl⟩, fun c4 => ?_⟩
        refine ⟨fun h => ⟨.bff (bad (by unfold clsOk; rw [show decide ((p.getD i cls0).methods.length ≤ 6) = false by have h : decide (((p.getD i cls0).methods.length : Int) > 6) = true := h; have h := of_decide_eq_true h; exact decide_eq_false (by omega)]; simp)), rfl⟩, fun c5 => ?_⟩
        exact ⟨(), ⟨c1, c2, (by have h : decide (((p.getD i cls0).ifaces.length : Int) > 4) = false := c3; have h := of_decide_eq_false h; omega), (by have h : decide (((p.getD i cls0).fields.length : Int) > 6) = false := c4; have h := of_decide_eq_false h; omega), (by have h : decide (((p.getD i cls0).methods.length : Int) > 6) = false := c5; have h := of_decide_eq_false h; omega)⟩, ⟨rfl, rfl⟩, .refl _, .refl _, .refl _, ⟨.refl _, trivial⟩, ⟨.refl _, .refl _, .refl _, .refl _, .refl _, .refl _, trivial⟩, trivial⟩
    obtain ⟨q1, q2, q3, q4, q5⟩ : freshW c.name = true ∧ (decide (c.super = noS) || (!c.iface && freshW c.super)) = true ∧ c.ifaces.length ≤ 4 ∧ c.fields.length ≤ 6 ∧ c.methods.length ≤ 6 := hL
    have un : clsOk c = (freshW c.name && ((decide (c.super = noS) || (!c.iface && freshW c.super)) && ((decide (c.ifaces.length ≤ 4) && c.ifaces.all freshW) && ((decide (c.fields.length ≤ 6) && c.fields.all fldOk) && (decide (c.methods.length ≤ 6) && c.methods.all methOk))))) := rfl
    refine ⟨Nat, fun k => [(1, .box 1 0), (3, I i), (4, .box 4 0), (5, I k)], fun _ => [(1, [prgR p]), (4, clsC c)], fun k => k ≤ c.ifaces.length ∧ (c.ifaces.take k).all freshW = true, fun k => c.ifaces.length - k,
      ⟨0, ⟨Nat.zero_le _, rfl⟩, ⟨⟨rfl, rfl⟩, .refl _, .refl _, .refl _, .refl _, ⟨.refl _, trivial⟩, ⟨.refl _, .refl _, .refl _, .refl _, .refl _, .refl _, trivial⟩, trivial⟩⟩, fun (k : Nat) hk => ?_⟩
    have hk1 : k ≤ c.ifaces.length := hk.1
    have hwk : IntKind.i64.wrap ((k : Int) + 1) = ((k + 1 : Nat) : Int) := by rw [wrap_eq _ (by omega) (by omega)]; omega
    refine ⟨fun h => ?_, fun h => ?_⟩
    · have hlk : k < c.ifaces.length := dlt h
      refine ⟨⟨by omega, by omega⟩, ?_⟩
      refine ⟨c.ifaces.getD k noS, ⟨.refl _, trivial⟩, rfl, d4 _ (getT_mem _ _ _ hlk), ?_⟩
      refine ⟨fun h => ⟨.bff (bad (by rw [un, all_badT hlk (show freshW (c.ifaces.getD k noS) = false by simpa using h)]; simp)), rfl⟩, fun h => ?_⟩
      exact ⟨k + 1, ⟨hlk, all_takeT hlk hk.2 (by simpa using h)⟩, by show c.ifaces.length - (k + 1) < c.ifaces.length - k; omega, ⟨rfl, rfl⟩, .refl _, .refl _, .int hwk, .refl _, ⟨.refl _, trivial⟩, ⟨.refl _, .refl _, .refl _, .refl _, .refl _, .refl _, trivial⟩, trivial⟩
    have a1 := all_endT (dge h) hk.2
    refine ⟨Nat, fun k => [(1, .box 1 0), (3, I i), (4, .box 4 0), (6, I k)], fun _ => [(1, [prgR p]), (4, clsC c)], fun k => k ≤ c.fields.length ∧ (c.fields.take k).all fldOk = true, fun k => c.fields.length - k,
      ⟨0, ⟨Nat.zero_le _, rfl⟩, ⟨⟨rfl, rfl⟩, .refl _, .refl _, .refl _, .refl _, ⟨.refl _, trivial⟩, ⟨.refl _, .refl _, .refl _, .refl _, .refl _, .refl _, trivial⟩, trivial⟩⟩, fun (k : Nat) hk => ?_⟩
    have hk1 : k ≤ c.fields.length := hk.1
    have hwk : IntKind.i64.wrap ((k : Int) + 1) = ((k + 1 : Nat) : Int) := by rw [wrap_eq _ (by omega) (by omega)]; omega
    refine ⟨fun h => ?_, fun h => ?_⟩
    · have hlk : k < c.fields.length := dlt h
      have fu : fldOk (c.fields.getD k fld0) = (freshW (c.fields.getD k fld0).name && tyOk (c.fields.getD k fld0).type) := rfl
      have fd := d6 _ (getT_mem c.fields fld0 k hlk)
      refine ⟨⟨by omega, by omega⟩, ?_⟩
      refine ⟨(c.fields.getD k fld0).name, ⟨.refl _, trivial⟩, rfl, fd.1, ?_⟩
      refine ⟨fun h => ⟨.bff (bad (by rw [un, all_badT hlk (show fldOk (c.fields.getD k fld0) = false by rw [fu, show freshW (c.fields.getD k fld0).name = false by simpa using h]; rfl)]; simp)), rfl⟩, fun c1 => ?_⟩
      refine ⟨⟨by omega, by omega⟩, ?_⟩
      refine ⟨(c.fields.getD k fld0).type, ⟨.refl _, trivial⟩, rfl, fd.2, ?_⟩
      refine ⟨fun h => ⟨.bff (bad (by have h := ttL_no.symm.trans h; rw [un, all_badT hlk (show fldOk (c.fields.getD k fld0) = false by rw [fu, show tyOk (c.fields.getD k fld0).type = false by simpa using h]; simp)]; simp)), rfl⟩, fun h => ?_⟩
      have h := ttL_no.symm.trans h
      exact ⟨k + 1, ⟨hlk, all_takeT hlk hk.2 (by rw [fu, show freshW (c.fields.getD k fld0).name = true by simpa using c1, show tyOk (c.fields.getD k fld0).type = true by simpa using h]; rfl)⟩, by show c.fields.length - (k + 1) < c.fields.length - k; omega, ⟨rfl, rfl⟩, .refl _, .refl _, .refl _, .int hwk, ⟨.refl _, trivial⟩, ⟨.refl _, .refl _, .refl _, .refl _, .refl _, .refl _, trivial⟩, trivial⟩
    have a2 := all_endT (dge h) hk.2
    refine ⟨Nat, fun k => [(1, .box 1 0), (3, I i), (4, .box 4 0), (7, I k)], fun _ => [(1, [prgR p]), (4, clsC c)], fun k => k ≤ c.methods.length ∧ (c.methods.take k).all methOk = true, fun k => c.methods.length - k,
      ⟨0, ⟨Nat.zero_le _, rfl⟩, ⟨⟨rfl, rfl⟩, .refl _, .refl _, .refl _, .refl _, ⟨.refl _, trivial⟩, ⟨.refl _, .refl _, .refl _, .refl _, .refl _, .refl _, trivial⟩, trivial⟩⟩, fun (k : Nat) hk => ?_⟩
    have hk1 : k ≤ c.methods.length := hk.1
    have hwk : IntKind.i64.wrap ((k : Int) + 1) = ((k + 1 : Nat) : Int) := by rw [wrap_eq _ (by omega) (by omega)]; omega
    refine ⟨fun h => ?_, fun h => ?_⟩
    · have hlk : k < c.methods.length := dlt h
      refine ⟨⟨by omega, by omega⟩, ?_⟩
      refine ⟨c.methods.getD k meth0, ⟨.refl _, trivial⟩, rfl, d8 _ (getT_mem _ _ _ hlk), ?_⟩
      refine ⟨fun h => ⟨.bff (bad (by rw [un, all_badT hlk (show methOk (c.methods.getD k meth0) = false by simpa using h)]; simp)), rfl⟩, fun h => ?_⟩
      exact ⟨k + 1, ⟨hlk, all_takeT hlk hk.2 (by simpa using h)⟩, by show c.methods.length - (k + 1) < c.methods.length - k; omega, ⟨rfl, rfl⟩, .refl _, .refl _, .int hwk, .refl _, ⟨.refl _, trivial⟩, ⟨.refl _, .refl _, .refl _, .refl _, .refl _, .refl _, trivial⟩, trivial⟩
    have a3 := all_endT (dge h) hk.2
    exact ⟨i + 1, ⟨hlt, all_takeT (d := cls0) hlt hi.2 (by rw [← hc, un, q1, q2, decide_eq_true q3, a1, decide_eq_true q4, a2, decide_eq_true q5, a3]; rfl)⟩, by show p.length - (i + 1) < p.length - i; omega, ⟨rfl, rfl⟩, .refl _, .int hwj, ⟨.refl _, trivial⟩, trivial⟩
end Go.Proofs.YtadimoijlgmecaaGreatDoor.Ax
/- Layer show: the words of lists and instructions. PRINTED by wip/sp/sk.py. -/
set_option linter.unusedVariables false
set_option linter.unusedSimpArgs false
namespace Go.Proofs.YtadimoijlgmecaaGreatDoor.Ax
open Go Go.RowKit
def itoaS : Ctr := { A := Int, enc := fun x => [I x], dom := fun x => -9223372036854775808 ≤ x ∧ x ≤ 9223372036854775807, res := fun x _ => S (dig x), gl := tabS }
theorem itoaS_ok : CtrSound Tryz.prog 70 itoaS := by
  refine ctr_pure ⟨_, Tryz.func70, by kernel_rfl, by kernel_rfl⟩ fun x H w vs id hd hgl hs hn hg => ?_
  obtain ⟨u, rfl, h1⟩ := args1 hn hg
  rw [gval' h1]
  refine (Tryz.strconv_Itoa x hd.1 hd.2 w hgl.1).mono ?_
  rintro e w' ⟨rfl, k, os, rfl⟩
  refine ⟨_, rfl, ?_, .val _⟩
  refine ⟨rfl, rfl, rfl, by simp [Sort.grow, World.drewN], fun i hi => ?_⟩
  show (w.heap ++ os)[i]? = w.heap[i]?
  exact Array.getElem?_append_left hi
theorem flat_snoc {α β : Type} (g : α → List β) (l : List α) (d : α) (i : Nat) (h : i < l.length) : (l.take (i + 1)).flatMap g = (l.take i).flatMap g ++ g (l.getD i d) := by
  rw [takeT l d i h, List.flatMap_append]; simp
theorem listF_snoc (w : ByteArray) (l : List ByteArray) (i : Nat) (h : i < l.length) : listF w (l.take (i + 1)) = listF w (l.take i) ++ [if i = 0 then w else wComma, l.getD i noS] := by
  cases l with
  | nil => simp at h
  | cons s r =>
    cases i with
    | zero => simp [listF]
    | succ i =>
      simp only [List.length_cons] at h
      simp only [List.take_succ_cons, listF, List.getD_cons_succ]
      rw [flat_snoc _ r noS i (by omega), if_neg (by omega)]
      simp
theorem listF_len (w : ByteArray) (l : List ByteArray) : (listF w l).length = 2 * l.length := by
  cases l with
  | nil => rfl
  | cons s r =>
    have : ∀ r : List ByteArray, (r.flatMap fun x => [wComma, x]).length = 2 * r.length := by
      intro r
      induction r with
      | nil => rfl
      | cons a r ih => simp only [List.flatMap_cons, List.length_append, ih, List.length_cons, List.length_nil]; omega
    simp only [listF, List.length_append, List.length_cons, List.length_nil, this]
    omega
def listC : Ctr := { A := ByteArray × List ByteArray, enc := fun x => [S x.1, .row ByteArray 1 strC noS x.2], dom := fun x => x.2.length ≤ 100000, res := fun x id => .own ByteArray 1 strC noS (listF x.1 x.2) id }
set_option maxRecDepth 100000 in
theorem list_ok : CtrSound Tryz.prog 39 listC :=
  ctr_of_ax (env_okB tys_ok (eqs := []) trivial (cs := []) trivial (bs := []) trivial) mixed _ Tryz.func39 (by kernel_rfl) rfl (fun _ _ => Nat.le_of_ble_eq_true rfl) fun ((w, l) : ByteArray × List ByteArray) id hd => by
    have hd : l.length ≤ 100000 := hd
    refine ⟨Nat, fun i => [(0, S w), (11, I i), (5, .own ByteArray 1 strC noS (listF w (l.take i)) 23), (9, .row ByteArray 1 strC noS l), (10, I l.length)], fun _ => [], fun i => i ≤ l.length, fun i => l.length - i, ⟨0, Nat.zero_le _, ⟨⟨rfl, rfl⟩, .refl _, .refl _, .nilO .., .refl _, .refl _, trivial⟩⟩, fun (i : Nat) hi => ?_⟩
    have h1 : i ≤ l.length := hi
    have hwj : IntKind.i64.wrap ((i : Int) + 1) = ((i + 1 : Nat) : Int) := by rw [wrap_eq _ (by omega) (by omega)]; omega
    have hb := listF_len w (l.take i)
    rw [List.length_take] at hb
    refine ⟨fun h => ?_, fun h => ?_⟩
    · have hlt : i < l.length := by have := of_decide_eq_true h; omega
      have hs := listF_snoc w l i hlt
      refine ⟨⟨by omega, by omega⟩, ?_⟩
      refine ⟨fun h3 => ?_, fun h3 => ?_⟩
      · have h0 : i = 0 := by have : (i : Int) = 0 := eqT h3
                              omega
        rw [if_pos h0] at hs
        refine ⟨ByteArray, strC, noS, [w, l.getD i noS], ⟨rfl, fun _ => rfl⟩, ⟨.refl _, .refl _, trivial⟩, rfl, ?_⟩
        refine ⟨ByteArray, strC, noS, listF w (l.take i), [w, l.getD i noS], 23, ⟨.refl _, .own ..⟩, fun _ => rfl, (by simp only [List.length_cons, List.length_nil, hb]; omega), ?_⟩
        exact ⟨i + 1, hlt, by show l.length - (i + 1) < l.length - i; omega, ⟨rfl, rfl⟩, .refl _, .int hwj, .ownEq hs.symm, .refl _, .refl _, trivial⟩
      · have h0 : ¬ i = 0 := fun c => by have : (i : Int) ≠ 0 := eqF h3
                                         omega
        rw [if_neg h0] at hs
        refine ⟨ByteArray, strC, noS, [wComma, l.getD i noS], ⟨rfl, fun _ => rfl⟩, ⟨.refl _, .refl _, trivial⟩, rfl, ?_⟩
        refine ⟨ByteArray, strC, noS, listF w (l.take i), [wComma, l.getD i noS], 23, ⟨.refl _, .own ..⟩, fun _ => rfl, (by simp only [List.length_cons, List.length_nil, hb]; omega), ?_⟩
        exact ⟨i + 1, hlt, by show l.length - (i + 1) < l.length - i; omega, ⟨rfl, rfl⟩, .refl _, .int hwj, .ownEq hs.symm, .refl _, .refl _, trivial⟩
    · have hge : i = l.length := by have := of_decide_eq_false h; omega
      exact ⟨.ownEq (by rw [hge, List.take_length]), rfl⟩
def someW (s : ByteArray) : List ByteArray := if s = noS then [] else [s]
theorem codeF_eq (x : Ins) : codeF x = ([wordF2 x.op] ++ (if (numsF x.op).2.2 then [dig x.n] else [])) ++ (([x.a, x.b].take 2).flatMap someW) ++ [wSemi] := by
  unfold codeF someW; simp
def codeC : Ctr := { A := Ins, enc := fun x => [.agg (insC x)], dom := fun x => -9223372036854775808 ≤ x.n ∧ x.n ≤ 9223372036854775807, res := fun x id => .own ByteArray 1 strC noS (codeF x) id, gl := tabS }
theorem someW_len (l : List ByteArray) : (l.flatMap someW).length ≤ l.length := by
  induction l with
  | nil => simp
  | cons a r ih => simp only [List.flatMap_cons, List.length_append, List.length_cons]; have : (someW a).length ≤ 1 := by unfold someW; split <;> simp
                   omega
set_option maxRecDepth 100000 in
theorem code_ok : CtrSound Tryz.prog 71 codeC :=
  ctr_of_ax (env_okB tys_ok (eqs := []) trivial (cs := [(104, pwordC), (105, numsC), (70, itoaS)]) ⟨pword_ok, nums_ok, itoaS_ok, trivial⟩ (bs := []) trivial (gl := tabS)) mixed _ Tryz.func71 (by kernel_rfl) rfl (fun _ _ => Nat.le_of_ble_eq_true rfl) fun (x : Ins) id hd => by
    have hd : -9223372036854775808 ≤ x.n ∧ x.n ≤ 9223372036854775807 := hd
    refine ⟨x.op, ⟨.refl _, trivial⟩, rfl, trivial, ?_⟩
    refine ⟨ByteArray, strC, noS, [wordF2 x.op], ⟨rfl, fun _ => rfl⟩, ⟨.refl _, trivial⟩, rfl, ?_⟩
    refine ⟨x.op, ⟨.refl _, trivial⟩, rfl, trivial, ?_⟩
    refine ⟨fun hq => ?_, fun hq => ?_⟩
    · have hq : (numsF x.op).2.2 = true := hq
      refine ⟨x.n, ⟨.refl _, trivial⟩, rfl, hd, ?_⟩
      refine ⟨ByteArray, strC, noS, [dig x.n], ⟨rfl, fun _ => rfl⟩, ⟨.refl _, trivial⟩, rfl, ?_⟩
      refine ⟨ByteArray, strC, noS, [wordF2 x.op], [dig x.n], 12, ⟨.refl _, .own ..⟩, fun _ => rfl, (by simp only [List.length_cons, List.length_nil]; omega), ?_⟩
      refine ⟨ByteArray, strC, noS, [x.a, x.b], ⟨rfl, fun _ => rfl⟩, ⟨.refl _, .refl _, trivial⟩, rfl, ?_⟩
      refine ⟨Nat × Bool, fun s => [(3, .own ByteArray 1 strC noS (([wordF2 x.op] ++ [dig x.n]) ++ ([x.a, x.b].take s.1).flatMap someW) (if s.2 then 42 else 26)), (31, .row ByteArray 1 strC noS [x.a, x.b]), (33, I s.1), (32, I 2)], fun _ => [], fun s => s.1 ≤ 2, fun s => 2 - s.1, ⟨(0, false), Nat.zero_le _, ⟨⟨rfl, rfl⟩, .ownEq (by simp), .own .., .refl _, .refl _, trivial⟩⟩, fun ((i, b) : Nat × Bool) hi => ?_⟩
      have hi : i ≤ 2 := hi
      have hwj : IntKind.i64.wrap ((i : Int) + 1) = ((i + 1 : Nat) : Int) := by rw [wrap_eq _ (by omega) (by omega)]; omega
      have hl := someW_len ([x.a, x.b].take i)
      have hl2 : ([x.a, x.b].take i).length ≤ 2 := by rw [List.length_take]; simp; omega
      cases b
      case false =>
        refine ⟨fun h => ?_, fun h => ?_⟩
        · have hlt : i < [x.a, x.b].length := by have := of_decide_eq_true h; simp only [List.length_cons, List.length_nil]; omega
          have hs := flat_snoc someW [x.a, x.b] noS i hlt
          have hlt2 : i < 2 := hlt
          refine ⟨⟨by omega, by simp only [List.length_cons, List.length_nil]; omega⟩, ?_⟩
          have hne : (!(([x.a, x.b].getD i noS).toList == (⟨#[]⟩ : ByteArray).toList)) = !decide ([x.a, x.b].getD i noS = noS) := by rw [ba_eq]
          refine ⟨fun h3 => ?_, fun h3 => ?_⟩
          · have h3 : ¬ [x.a, x.b].getD i noS = noS := by have h3 : (!(([x.a, x.b].getD i noS).toList == (⟨#[]⟩ : ByteArray).toList)) = true := h3
                                                          rw [hne] at h3; simpa using h3
            have hs2 : someW ([x.a, x.b].getD i noS) = [[x.a, x.b].getD i noS] := if_neg h3
            rw [hs2] at hs
            refine ⟨ByteArray, strC, noS, [[x.a, x.b].getD i noS], ⟨rfl, fun _ => rfl⟩, ⟨.refl _, trivial⟩, rfl, ?_⟩
            refine ⟨ByteArray, strC, noS, ([wordF2 x.op] ++ [dig x.n]) ++ ([x.a, x.b].take i).flatMap someW, [[x.a, x.b].getD i noS], 26, ⟨.refl _, .own ..⟩, fun _ => rfl, (by simp only [List.length_append, List.length_cons, List.length_nil]; omega), ?_⟩
            exact ⟨(i + 1, true), (show i + 1 ≤ 2 by omega), by show 2 - (i + 1) < 2 - i; omega, ⟨rfl, rfl⟩, .ownEq (by rw [hs, List.append_assoc]), .refl _, .int hwj, .refl _, trivial⟩
          · have h3 : [x.a, x.b].getD i noS = noS := by have h3 : (!(([x.a, x.b].getD i noS).toList == (⟨#[]⟩ : ByteArray).toList)) = false := h3
                                                        rw [hne] at h3; simpa using h3
            have hs2 : someW ([x.a, x.b].getD i noS) = [] := if_pos h3
            rw [hs2, List.append_nil] at hs
            exact ⟨(i + 1, false), (show i + 1 ≤ 2 by omega), by show 2 - (i + 1) < 2 - i; omega, ⟨rfl, rfl⟩, .ownEq (by rw [hs]), .refl _, .int hwj, .refl _, trivial⟩
        · have hge : i = 2 := by have := of_decide_eq_false h; omega
          subst hge
          refine ⟨ByteArray, strC, noS, [wSemi], ⟨rfl, fun _ => rfl⟩, ⟨.refl _, trivial⟩, rfl, ?_⟩
          refine ⟨ByteArray, strC, noS, ([wordF2 x.op] ++ [dig x.n]) ++ ([x.a, x.b].take 2).flatMap someW, [wSemi], 26, ⟨.refl _, .own ..⟩, fun _ => rfl, (by simp only [List.length_append, List.length_cons, List.length_nil]; omega), ?_⟩
          exact ⟨.ownEq (by rw [codeF_eq]; rw [if_pos hq]), rfl⟩
      case true =>
        refine ⟨fun h => ?_, fun h => ?_⟩
        · have hlt : i < [x.a, x.b].length := by have := of_decide_eq_true h; simp only [List.length_cons, List.length_nil]; omega
          have hs := flat_snoc someW [x.a, x.b] noS i hlt
          have hlt2 : i < 2 := hlt
          refine ⟨⟨by omega, by simp only [List.length_cons, List.length_nil]; omega⟩, ?_⟩
          have hne : (!(([x.a, x.b].getD i noS).toList == (⟨#[]⟩ : ByteArray).toList)) = !decide ([x.a, x.b].getD i noS = noS) := by rw [ba_eq]
          refine ⟨fun h3 => ?_, fun h3 => ?_⟩
          · have h3 : ¬ [x.a, x.b].getD i noS = noS := by have h3 : (!(([x.a, x.b].getD i noS).toList == (⟨#[]⟩ : ByteArray).toList)) = true := h3
                                                          rw [hne] at h3; simpa using h3
            have hs2 : someW ([x.a, x.b].getD i noS) = [[x.a, x.b].getD i noS] := if_neg h3
            rw [hs2] at hs
            refine ⟨ByteArray, strC, noS, [[x.a, x.b].getD i noS], ⟨rfl, fun _ => rfl⟩, ⟨.refl _, trivial⟩, rfl, ?_⟩
            refine ⟨ByteArray, strC, noS, ([wordF2 x.op] ++ [dig x.n]) ++ ([x.a, x.b].take i).flatMap someW, [[x.a, x.b].getD i noS], 42, ⟨.refl _, .own ..⟩, fun _ => rfl, (by simp only [List.length_append, List.length_cons, List.length_nil]; omega), ?_⟩
            exact ⟨(i + 1, true), (show i + 1 ≤ 2 by omega), by show 2 - (i + 1) < 2 - i; omega, ⟨rfl, rfl⟩, .ownEq (by rw [hs, List.append_assoc]), .refl _, .int hwj, .refl _, trivial⟩
          · have h3 : [x.a, x.b].getD i noS = noS := by have h3 : (!(([x.a, x.b].getD i noS).toList == (⟨#[]⟩ : ByteArray).toList)) = false := h3
                                                        rw [hne] at h3; simpa using h3
            have hs2 : someW ([x.a, x.b].getD i noS) = [] := if_pos h3
            rw [hs2, List.append_nil] at hs
            exact ⟨(i + 1, true), (show i + 1 ≤ 2 by omega), by show 2 - (i + 1) < 2 - i; omega, ⟨rfl, rfl⟩, .ownEq (by rw [hs]), .refl _, .int hwj, .refl _, trivial⟩
        · have hge : i = 2 := by have := of_decide_eq_false h; omega
          subst hge
          refine ⟨ByteArray, strC, noS, [wSemi], ⟨rfl, fun _ => rfl⟩, ⟨.refl _, trivial⟩, rfl, ?_⟩
          refine ⟨ByteArray, strC, noS, ([wordF2 x.op] ++ [dig x.n]) ++ ([x.a, x.b].take 2).flatMap someW, [wSemi], 42, ⟨.refl _, .own ..⟩, fun _ => rfl, (by simp only [List.length_append, List.length_cons, List.length_nil]; omega), ?_⟩
          exact ⟨.ownEq (by rw [codeF_eq]; rw [if_pos hq]), rfl⟩
    · have hq : (numsF x.op).2.2 = false := hq
      refine ⟨ByteArray, strC, noS, [x.a, x.b], ⟨rfl, fun _ => rfl⟩, ⟨.refl _, .refl _, trivial⟩, rfl, ?_⟩
      refine ⟨Nat × Bool, fun s => [(3, .own ByteArray 1 strC noS ([wordF2 x.op] ++ ([x.a, x.b].take s.1).flatMap someW) (if s.2 then 42 else 12)), (31, .row ByteArray 1 strC noS [x.a, x.b]), (33, I s.1), (32, I 2)], fun _ => [], fun s => s.1 ≤ 2, fun s => 2 - s.1, ⟨(0, false), Nat.zero_le _, ⟨⟨rfl, rfl⟩, .ownEq (by simp), .own .., .refl _, .refl _, trivial⟩⟩, fun ((i, b) : Nat × Bool) hi => ?_⟩
      have hi : i ≤ 2 := hi
      have hwj : IntKind.i64.wrap ((i : Int) + 1) = ((i + 1 : Nat) : Int) := by rw [wrap_eq _ (by omega) (by omega)]; omega
      have hl := someW_len ([x.a, x.b].take i)
      have hl2 : ([x.a, x.b].take i).length ≤ 2 := by rw [List.length_take]; simp; omega
      cases b
      case false =>
        refine ⟨fun h => ?_, fun h => ?_⟩
        · have hlt : i < [x.a, x.b].length := by have := of_decide_eq_true h; simp only [List.length_cons, List.length_nil]; omega
          have hs := flat_snoc someW [x.a, x.b] noS i hlt
          have hlt2 : i < 2 := hlt
          refine ⟨⟨by omega, by simp only [List.length_cons, List.length_nil]; omega⟩, ?_⟩
          have hne : (!(([x.a, x.b].getD i noS).toList == (⟨#[]⟩ : ByteArray).toList)) = !decide ([x.a, x.b].getD i noS = noS) := by rw [ba_eq]
          refine ⟨fun h3 => ?_, fun h3 => ?_⟩
          · have h3 : ¬ [x.a, x.b].getD i noS = noS := by have h3 : (!(([x.a, x.b].getD i noS).toList == (⟨#[]⟩ : ByteArray).toList)) = true := h3
                                                          rw [hne] at h3; simpa using h3
            have hs2 : someW ([x.a, x.b].getD i noS) = [[x.a, x.b].getD i noS] := if_neg h3
            rw [hs2] at hs
            refine ⟨ByteArray, strC, noS, [[x.a, x.b].getD i noS], ⟨rfl, fun _ => rfl⟩, ⟨.refl _, trivial⟩, rfl, ?_⟩
            refine ⟨ByteArray, strC, noS, [wordF2 x.op] ++ ([x.a, x.b].take i).flatMap someW, [[x.a, x.b].getD i noS], 12, ⟨.refl _, .own ..⟩, fun _ => rfl, (by simp only [List.length_append, List.length_cons, List.length_nil]; omega), ?_⟩
            exact ⟨(i + 1, true), (show i + 1 ≤ 2 by omega), by show 2 - (i + 1) < 2 - i; omega, ⟨rfl, rfl⟩, .ownEq (by rw [hs, List.append_assoc]), .refl _, .int hwj, .refl _, trivial⟩
          · have h3 : [x.a, x.b].getD i noS = noS := by have h3 : (!(([x.a, x.b].getD i noS).toList == (⟨#[]⟩ : ByteArray).toList)) = false := h3
                                                        rw [hne] at h3; simpa using h3
            have hs2 : someW ([x.a, x.b].getD i noS) = [] := if_pos h3
            rw [hs2, List.append_nil] at hs
            exact ⟨(i + 1, false), (show i + 1 ≤ 2 by omega), by show 2 - (i + 1) < 2 - i; omega, ⟨rfl, rfl⟩, .ownEq (by rw [hs]), .refl _, .int hwj, .refl _, trivial⟩
        · have hge : i = 2 := by have := of_decide_eq_false h; omega
          subst hge
          refine ⟨ByteArray, strC, noS, [wSemi], ⟨rfl, fun _ => rfl⟩, ⟨.refl _, trivial⟩, rfl, ?_⟩
          refine ⟨ByteArray, strC, noS, [wordF2 x.op] ++ ([x.a, x.b].take 2).flatMap someW, [wSemi], 12, ⟨.refl _, .own ..⟩, fun _ => rfl, (by simp only [List.length_append, List.length_cons, List.length_nil]; omega), ?_⟩
          exact ⟨.ownEq (by rw [codeF_eq]; rw [if_neg (by rw [hq]; decide), List.append_nil]), rfl⟩
      case true =>
        refine ⟨fun h => ?_, fun h => ?_⟩
        · have hlt : i < [x.a, x.b].length := by have := of_decide_eq_true h; simp only [List.length_cons, List.length_nil]; omega
          have hs := flat_snoc someW [x.a, x.b] noS i hlt
          have hlt2 : i < 2 := hlt
          refine ⟨⟨by omega, by simp only [List.length_cons, List.length_nil]; omega⟩, ?_⟩
          have hne : (!(([x.a, x.b].getD i noS).toList == (⟨#[]⟩ : ByteArray).toList)) = !decide ([x.a, x.b].getD i noS = noS) := by rw [ba_eq]
          refine ⟨fun h3 => ?_, fun h3 => ?_⟩
          · have h3 : ¬ [x.a, x.b].getD i noS = noS := by have h3 : (!(([x.a, x.b].getD i noS).toList == (⟨#[]⟩ : ByteArray).toList)) = true := h3
                                                          rw [hne] at h3; simpa using h3
            have hs2 : someW ([x.a, x.b].getD i noS) = [[x.a, x.b].getD i noS] := if_neg h3
            rw [hs2] at hs
            refine ⟨ByteArray, strC, noS, [[x.a, x.b].getD i noS], ⟨rfl, fun _ => rfl⟩, ⟨.refl _, trivial⟩, rfl, ?_⟩
            refine ⟨ByteArray, strC, noS, [wordF2 x.op] ++ ([x.a, x.b].take i).flatMap someW, [[x.a, x.b].getD i noS], 42, ⟨.refl _, .own ..⟩, fun _ => rfl, (by simp only [List.length_append, List.length_cons, List.length_nil]; omega), ?_⟩
            exact ⟨(i + 1, true), (show i + 1 ≤ 2 by omega), by show 2 - (i + 1) < 2 - i; omega, ⟨rfl, rfl⟩, .ownEq (by rw [hs, List.append_assoc]), .refl _, .int hwj, .refl _, trivial⟩
          · have h3 : [x.a, x.b].getD i noS = noS := by have h3 : (!(([x.a, x.b].getD i noS).toList == (⟨#[]⟩ : ByteArray).toList)) = false := h3
                                                        rw [hne] at h3; simpa using h3
            have hs2 : someW ([x.a, x.b].getD i noS) = [] := if_pos h3
            rw [hs2, List.append_nil] at hs
            exact ⟨(i + 1, true), (show i + 1 ≤ 2 by omega), by show 2 - (i + 1) < 2 - i; omega, ⟨rfl, rfl⟩, .ownEq (by rw [hs]), .refl _, .int hwj, .refl _, trivial⟩
        · have hge : i = 2 := by have := of_decide_eq_false h; omega
          subst hge
          refine ⟨ByteArray, strC, noS, [wSemi], ⟨rfl, fun _ => rfl⟩, ⟨.refl _, trivial⟩, rfl, ?_⟩
          refine ⟨ByteArray, strC, noS, [wordF2 x.op] ++ ([x.a, x.b].take 2).flatMap someW, [wSemi], 42, ⟨.refl _, .own ..⟩, fun _ => rfl, (by simp only [List.length_append, List.length_cons, List.length_nil]; omega), ?_⟩
          exact ⟨.ownEq (by rw [codeF_eq]; rw [if_neg (by rw [hq]; decide), List.append_nil]), rfl⟩
end Go.Proofs.YtadimoijlgmecaaGreatDoor.Ax
/- Layer show: the words of methods and classes. PRINTED by wip/sp/sl.py. -/
set_option linter.unusedVariables false
set_option linter.unusedSimpArgs false
namespace Go.Proofs.YtadimoijlgmecaaGreatDoor.Ax
open Go Go.RowKit
theorem kindW_len (t : Ty) : (kindW t).length ≤ 3 ∧ 0 < (kindW t).length := by
  unfold kindW kindF
  split <;> first | exact ⟨by decide, by decide⟩ | skip
  split <;> first | exact ⟨by decide, by decide⟩ | skip
  split <;> first | exact ⟨by simp, by simp⟩ | skip
  split <;> exact ⟨by simp, by simp⟩
theorem flat_le {α β : Type} (g : α → List β) (k : Nat) : ∀ l : List α, (∀ x ∈ l, (g x).length ≤ k) → (l.flatMap g).length ≤ k * l.length
  | [], _ => by simp
  | a :: r, h => by
    have h1 := h a List.mem_cons_self
    have h2 := flat_le g k r fun x hx => h x (List.mem_cons_of_mem _ hx)
    simp only [List.flatMap_cons, List.length_append, List.length_cons, Nat.mul_succ]
    omega
theorem paramsF_snoc (l : List Ty) (i : Nat) (h : i < l.length) : paramsF (l.take (i + 1)) = paramsF (l.take i) ++ ((if i = 0 then [] else [wComma]) ++ kindW (l.getD i ty0)) := by
  cases l with
  | nil => simp at h
  | cons s r =>
    cases i with
    | zero => simp [paramsF]
    | succ i =>
      simp only [List.length_cons] at h
      simp only [List.take_succ_cons, paramsF, List.getD_cons_succ]
      rw [flat_snoc _ r ty0 i (by omega), if_neg (by omega)]
      simp
theorem paramsF_len (l : List Ty) : (paramsF l).length ≤ 4 * l.length := by
  cases l with
  | nil => simp [paramsF]
  | cons s r =>
    have h1 := (kindW_len s).1
    have h2 := flat_le (fun x => wComma :: kindW x) 4 r fun x _ => by have := (kindW_len x).1; simp only [List.length_cons]; omega
    simp only [paramsF, List.length_append, List.length_cons]
    omega
theorem codeF_len (x : Ins) : (codeF x).length ≤ 5 := by
  rw [codeF_eq]
  have h := someW_len ([x.a, x.b].take 2)
  have h2 : (if (numsF x.op).2.2 then [dig x.n] else []).length ≤ 1 := by split <;> simp
  simp only [List.length_append, List.length_cons, List.length_nil] at h ⊢
  simp only [List.take_succ_cons, List.take_zero, List.length_cons, List.length_nil] at h
  simp only [List.take_succ_cons, List.take_zero]
  omega
theorem catF_len (c : Cat) : (catF c).length = 6 := rfl
theorem takeF_le {α β : Type} (g : α → List β) (k : Nat) (hg : ∀ x, (g x).length ≤ k) (l : List α) (i : Nat) : ((l.take i).flatMap g).length ≤ k * l.length := by
  have h1 := flat_le g k (l.take i) fun x _ => hg x
  have h2 : (l.take i).length ≤ l.length := by rw [List.length_take]; omega
  exact Nat.le_trans h1 (Nat.mul_le_mul_left k h2)
theorem Sub.manyEq {T : Type} {sz : Nat} {cs : T → List SV} {d : T} {a b : List T} (h : a = b) : Sub (.many T sz cs d a) (.many T sz cs d b) := by subst h; exact .refl _
def hdM (m : Meth) : List ByteArray := [if m.static then wFunction else wMethod, m.name, wLp]
def doM1 (m : Meth) : List ByteArray := hdM m ++ paramsF m.params ++ [wRp] ++ kindW m.ret
def doM2 (m : Meth) : List ByteArray := doM1 m ++ [wLocals, dig m.locals, wLc]
theorem doesF_abs {m : Meth} (h : m.abs = true) : doesF m = doM1 m ++ [wSemi] := by
  unfold doesF doM1 hdM; rw [if_pos (show m.abs = true from h)]; simp
theorem doesF_code {m : Meth} (h : m.abs = false) : doesF m = doM2 m ++ m.code.flatMap codeF ++ m.catches.flatMap catF ++ [wRc] := by
  unfold doesF doM2 doM1 hdM; rw [if_neg (show ¬ m.abs = true by rw [h]; decide)]; simp
def doesC : Ctr := { A := Meth, enc := fun m => [.agg (methC m)], dom := fun m => methOk m = true, res := fun m id => .own ByteArray 1 strC noS (doesF m) id, gl := tabS }
set_option maxRecDepth 100000 in
set_option maxHeartbeats 4000000 in
theorem does_ok : CtrSound Tryz.prog 40 doesC :=
  ctr_of_ax (env_okB tys_ok (eqs := []) trivial (cs := [(28, kindC), (71, codeC), (70, itoaS)]) ⟨kind_ok, code_ok, itoaS_ok, trivial⟩ (bs := []) trivial (vec := [12]) (gl := tabS) (cut := [4, 12])) mixed _ Tryz.func40 (by kernel_rfl) rfl (fun _ _ => Nat.le_of_ble_eq_true rfl) fun (m : Meth) id hd => by
    have hd : methOk m = true := hd
    obtain ⟨hp1, hp2, hp3, hp4, hp5, hp6, hp7⟩ := meth_parts hd
    have hpl := paramsF_len m.params
    have hkr := kindW_len m.ret
    have hm1 : (doM1 m).length ≤ 100 := by unfold doM1 hdM; simp only [List.length_append, List.length_cons, List.length_nil]; omega
    have hm2 : (doM2 m).length ≤ 103 := by unfold doM2; simp only [List.length_append, List.length_cons, List.length_nil]; omega
    have hcl : ∀ i, ((m.code.take i).flatMap codeF).length ≤ 240 := fun i => by
      have := takeF_le codeF 5 codeF_len m.code i
      have := hp6.1
      omega
    have hkl : ∀ i, ((m.catches.take i).flatMap catF).length ≤ 24 := fun i => by
      have := takeF_le catF 6 (fun c => Nat.le_of_eq (catF_len c)) m.catches i
      have := hp7.1
      omega
    refine ⟨ByteArray, strC, noS, [wMethod, m.name, wLp], ⟨rfl, fun _ => ⟨rfl, rfl, rfl⟩⟩, ⟨.refl _, .refl _, .refl _, trivial⟩, ?_⟩
    refine ⟨Unit, fun _ => [(1, .box 1 0), (3, .arr 12 1 0 3 (some 3))], fun _ => [(1, methC m), (12, [.many ByteArray 1 strC noS (hdM m)])], fun _ => True, ?_, fun _ _ => ?_⟩
    · refine ⟨fun h => ?_, fun h => ?_⟩
      · have h : m.static = true := h
        refine ⟨⟨by decide, by decide⟩, ?_⟩
        refine ⟨⟨Int.le_refl 0, (show (0 : Int) < 3 by decide)⟩, ?_⟩
        refine ⟨wFunction, ⟨.refl _, trivial⟩, ?_⟩
        exact ⟨(), trivial, ⟨rfl, rfl⟩, .refl _, .refl _, ⟨.refl _, .refl _, .refl _, .refl _, .refl _, .refl _, .refl _, .refl _, .refl _, trivial⟩, ⟨.manyEq (by unfold hdM; rw [if_pos h]; rfl), trivial⟩, trivial⟩
      · have h : m.static = false := h
        exact ⟨(), trivial, ⟨rfl, rfl⟩, .refl _, .refl _, ⟨.refl _, .refl _, .refl _, .refl _, .refl _, .refl _, .refl _, .refl _, .refl _, trivial⟩, ⟨.manyEq (by unfold hdM; rw [if_neg (by rw [h]; decide)]), trivial⟩, trivial⟩
    refine ⟨Nat × Bool, fun s => [(1, .box 1 0), (3, cond s.2 (.own ByteArray 1 strC noS (hdM m ++ paramsF (m.params.take s.1)) 33) (.arr 12 1 0 3 (some 3))), (19, I m.params.length), (20, I s.1), (18, .row Ty 2 tyC ty0 m.params)],
      fun s => cond s.2 [(1, methC m)] [(1, methC m), (12, [.many ByteArray 1 strC noS (hdM m)])], fun s => s.1 ≤ m.params.length ∧ (s.2 = false → s.1 = 0), fun s => m.params.length - s.1,
      ⟨(0, false), ⟨Nat.zero_le _, fun _ => rfl⟩, ⟨⟨rfl, rfl⟩, .refl _, .refl _, .refl _, .refl _, .refl _, ⟨.refl _, .refl _, .refl _, .refl _, .refl _, .refl _, .refl _, .refl _, .refl _, trivial⟩, ⟨.refl _, trivial⟩, trivial⟩⟩, fun ((i, b) : Nat × Bool) hi => ?_⟩
    have hi1 : i ≤ m.params.length := hi.1
    have hwj : IntKind.i64.wrap ((i : Int) + 1) = ((i + 1 : Nat) : Int) := by rw [wrap_eq _ (by omega) (by omega)]; omega
    have hbi := paramsF_len (m.params.take i)
    have hti : (m.params.take i).length ≤ 4 := by rw [List.length_take]; omega
    have hki := kindW_len (m.params.getD i ty0)
    cases b
    case false =>
      have h0 : i = 0 := hi.2 rfl
      refine ⟨fun h => ?_, fun h => ?_⟩
      · have hlt : i < m.params.length := by have := of_decide_eq_true h; omega
        have hs := paramsF_snoc m.params i hlt
        rw [if_pos h0] at hs
        refine ⟨⟨by omega, by omega⟩, ?_⟩
        refine ⟨fun h3 => ?_, fun h3 => ?_⟩
        · have h3 := of_decide_eq_true h3
          exact absurd h3 (by omega)
        · refine ⟨m.params.getD i ty0, ⟨.refl _, trivial⟩, rfl, trivial, ?_⟩
          refine .inl ⟨kindW (m.params.getD i ty0), ⟨rfl, Nat.le_refl _, hki.2, .own ..⟩, (show (3 + (kindW (m.params.getD i ty0)).length) * 16 ≤ 140737488355328 by omega), ?_⟩
          exact ⟨(i + 1, true), ⟨hlt, fun c => by cases c⟩, by show m.params.length - (i + 1) < m.params.length - i; omega, ⟨rfl, rfl⟩, .refl _, .ownEq (by rw [hs, h0]; rfl), .refl _, .int hwj, .refl _, ⟨.refl _, .refl _, .refl _, .refl _, .refl _, .refl _, .refl _, .refl _, .refl _, trivial⟩, trivial⟩
      · have hge : m.params.length = 0 := by have := of_decide_eq_false h; omega
        have hnil : m.params = [] := List.length_eq_zero_iff.1 hge
        refine ⟨Unit, fun _ => [(1, .box 1 0), (3, .own ByteArray 1 strC noS (doM1 m) 41)], fun _ => [(1, methC m)], fun _ => True, ?_, fun _ _ => ?_⟩
        · refine ⟨by kernel_rfl, ?_⟩
          refine ⟨ByteArray, strC, noS, [wRp], ⟨rfl, fun _ => rfl⟩, ⟨.refl _, trivial⟩, rfl, ?_⟩
          refine .inl ⟨[wRp], ⟨rfl, Nat.le_refl _, Nat.succ_pos _, .own ..⟩, (show (3 + 1) * 16 ≤ 140737488355328 by omega), ?_⟩
          refine ⟨m.ret, ⟨.refl _, trivial⟩, rfl, trivial, ?_⟩
          refine ⟨ByteArray, strC, noS, hdM m ++ [wRp], kindW m.ret, 37, ⟨.refl _, .own ..⟩, fun _ => rfl, (by unfold hdM; simp only [List.length_append, List.length_cons, List.length_nil]; omega), ?_⟩
          exact ⟨(), trivial, ⟨rfl, rfl⟩, .refl _, .ownEq (by unfold doM1; rw [hnil]; simp [paramsF]), ⟨.refl _, .refl _, .refl _, .refl _, .refl _, .refl _, .refl _, .refl _, .refl _, trivial⟩, trivial⟩
        clear hwj hbi hti hki h hi hi1
        refine ⟨fun ha => ?_, fun ha => ?_⟩
        · refine ⟨ByteArray, strC, noS, [wSemi], ⟨rfl, fun _ => rfl⟩, ⟨.refl _, trivial⟩, rfl, ?_⟩
          refine ⟨ByteArray, strC, noS, doM1 m, [wSemi], 41, ⟨.refl _, .own ..⟩, fun _ => rfl, (by simp only [List.length_cons, List.length_nil]; omega), ?_⟩
          exact ⟨.ownEq (doesF_abs ha).symm, rfl⟩
        · refine ⟨m.locals, ⟨.refl _, trivial⟩, rfl, ⟨by omega, by omega⟩, ?_⟩
          refine ⟨ByteArray, strC, noS, [wLocals, dig m.locals, wLc], ⟨rfl, fun _ => rfl⟩, ⟨.refl _, .refl _, .refl _, trivial⟩, rfl, ?_⟩
          refine ⟨ByteArray, strC, noS, doM1 m, [wLocals, dig m.locals, wLc], 41, ⟨.refl _, .own ..⟩, fun _ => rfl, (by simp only [List.length_cons, List.length_nil]; omega), ?_⟩
          refine ⟨Nat × Bool, fun s => [(1, .box 1 0), (3, .own ByteArray 1 strC noS (doM2 m ++ (m.code.take s.1).flatMap codeF) (cond s.2 63 52)), (55, I m.code.length), (56, I s.1), (54, .row Ins 4 insC ins0 m.code)], fun _ => [(1, methC m)], fun s => s.1 ≤ m.code.length, fun s => m.code.length - s.1,
            ⟨(0, false), Nat.zero_le _, ⟨⟨rfl, rfl⟩, .refl _, .ownEq (by simp [doM2]), .refl _, .refl _, .refl _, ⟨.refl _, .refl _, .refl _, .refl _, .refl _, .refl _, .refl _, .refl _, .refl _, trivial⟩, trivial⟩⟩, fun ((i, b) : Nat × Bool) hi => ?_⟩
          have hi1 : i ≤ m.code.length := hi
          have hwj : IntKind.i64.wrap ((i : Int) + 1) = ((i + 1 : Nat) : Int) := by rw [wrap_eq _ (by omega) (by omega)]; omega
          have hbi := hcl i
          cases b
          case false =>
            refine ⟨fun h => ?_, fun h => ?_⟩
            · have hlt : i < m.code.length := by have := of_decide_eq_true h; omega
              have hs := flat_snoc codeF m.code ins0 i hlt
              have hx := ins_parts (hp6.2 _ (getT_mem m.code ins0 i hlt))
              have hr := nums_R (m.code.getD i ins0).op
              have hcx := codeF_len (m.code.getD i ins0)
              refine ⟨⟨by omega, by omega⟩, ?_⟩
              refine ⟨m.code.getD i ins0, ⟨.refl _, trivial⟩, rfl, ⟨by omega, by omega⟩, ?_⟩
              refine ⟨ByteArray, strC, noS, doM2 m ++ (m.code.take i).flatMap codeF, codeF (m.code.getD i ins0), 52, ⟨.refl _, .own ..⟩, fun _ => rfl, (by simp only [List.length_append]; omega), ?_⟩
              exact ⟨(i + 1, true), hlt, by show m.code.length - (i + 1) < m.code.length - i; omega, ⟨rfl, rfl⟩, .refl _, .ownEq (by rw [hs, List.append_assoc]), .refl _, .int hwj, .refl _, ⟨.refl _, .refl _, .refl _, .refl _, .refl _, .refl _, .refl _, .refl _, .refl _, trivial⟩, trivial⟩
            · have hge : i = m.code.length := by have := of_decide_eq_false h; omega
              have hcb := hcl m.code.length
              rw [List.take_length] at hcb
              clear hwj hbi h hi hi1
              refine ⟨Nat × Bool, fun s => [(3, .own ByteArray 1 strC noS (doM2 m ++ m.code.flatMap codeF ++ (m.catches.take s.1).flatMap catF) (cond s.2 85 52)), (67, I m.catches.length), (68, I s.1), (66, .row Cat 4 catC cat0 m.catches)], fun _ => [], fun s => s.1 ≤ m.catches.length, fun s => m.catches.length - s.1,
                ⟨(0, false), Nat.zero_le _, ⟨⟨rfl, rfl⟩, .ownEq (by rw [hge, List.take_length]; simp), .refl _, .refl _, .refl _, trivial⟩⟩, fun ((i, b) : Nat × Bool) hi => ?_⟩
              have hi1 : i ≤ m.catches.length := hi
              have hwj : IntKind.i64.wrap ((i : Int) + 1) = ((i + 1 : Nat) : Int) := by rw [wrap_eq _ (by omega) (by omega)]; omega
              have hbi := hkl i
              cases b
              case false =>
                refine ⟨fun h => ?_, fun h => ?_⟩
                · have hlt : i < m.catches.length := by have := of_decide_eq_true h; omega
                  have hs := flat_snoc catF m.catches cat0 i hlt
                  have hx := cat_parts (hp7.2 _ (getT_mem m.catches cat0 i hlt))
                  refine ⟨⟨by omega, by omega⟩, ?_⟩
                  refine ⟨by kernel_rfl, ?_⟩
                  refine ⟨(m.catches.getD i cat0).fr, ⟨.refl _, trivial⟩, rfl, ⟨by omega, by omega⟩, ?_⟩
                  refine ⟨(m.catches.getD i cat0).up, ⟨.refl _, trivial⟩, rfl, ⟨by omega, by omega⟩, ?_⟩
                  refine ⟨(m.catches.getD i cat0).at', ⟨.refl _, trivial⟩, rfl, ⟨by omega, by omega⟩, ?_⟩
                  refine ⟨ByteArray, strC, noS, catF (m.catches.getD i cat0), ⟨rfl, fun _ => rfl⟩, ⟨.refl _, .refl _, .refl _, .refl _, .refl _, .refl _, trivial⟩, rfl, ?_⟩
                  refine ⟨ByteArray, strC, noS, doM2 m ++ m.code.flatMap codeF ++ (m.catches.take i).flatMap catF, catF (m.catches.getD i cat0), 52, ⟨.refl _, .own ..⟩, fun _ => rfl, (by simp only [List.length_append, catF_len]; omega), ?_⟩
                  exact ⟨(i + 1, true), hlt, by show m.catches.length - (i + 1) < m.catches.length - i; omega, ⟨rfl, rfl⟩, .ownEq (by rw [hs]; simp), .refl _, .int hwj, .refl _, trivial⟩
                · have hge2 : i = m.catches.length := by have := of_decide_eq_false h; omega
                  refine ⟨ByteArray, strC, noS, [wRc], ⟨rfl, fun _ => rfl⟩, ⟨.refl _, trivial⟩, rfl, ?_⟩
                  refine ⟨ByteArray, strC, noS, doM2 m ++ m.code.flatMap codeF ++ (m.catches.take i).flatMap catF, [wRc], 52, ⟨.refl _, .own ..⟩, fun _ => rfl, (by simp only [List.length_append, List.length_cons, List.length_nil]; omega), ?_⟩
                  exact ⟨.ownEq (by rw [doesF_code ha, hge2, List.take_length]), rfl⟩
              case true =>
                refine ⟨fun h => ?_, fun h => ?_⟩
                · have hlt : i < m.catches.length := by have := of_decide_eq_true h; omega
                  have hs := flat_snoc catF m.catches cat0 i hlt
                  have hx := cat_parts (hp7.2 _ (getT_mem m.catches cat0 i hlt))
                  refine ⟨⟨by omega, by omega⟩, ?_⟩
                  refine ⟨by kernel_rfl, ?_⟩
                  refine ⟨(m.catches.getD i cat0).fr, ⟨.refl _, trivial⟩, rfl, ⟨by omega, by omega⟩, ?_⟩
                  refine ⟨(m.catches.getD i cat0).up, ⟨.refl _, trivial⟩, rfl, ⟨by omega, by omega⟩, ?_⟩
                  refine ⟨(m.catches.getD i cat0).at', ⟨.refl _, trivial⟩, rfl, ⟨by omega, by omega⟩, ?_⟩
                  refine ⟨ByteArray, strC, noS, catF (m.catches.getD i cat0), ⟨rfl, fun _ => rfl⟩, ⟨.refl _, .refl _, .refl _, .refl _, .refl _, .refl _, trivial⟩, rfl, ?_⟩
                  refine ⟨ByteArray, strC, noS, doM2 m ++ m.code.flatMap codeF ++ (m.catches.take i).flatMap catF, catF (m.catches.getD i cat0), 85, ⟨.refl _, .own ..⟩, fun _ => rfl, (by simp only [List.length_append, catF_len]; omega), ?_⟩
                  exact ⟨(i + 1, true), hlt, by show m.catches.length - (i + 1) < m.catches.length - i; omega, ⟨rfl, rfl⟩, .ownEq (by rw [hs]; simp), .refl _, .int hwj, .refl _, trivial⟩
                · have hge2 : i = m.catches.length := by have := of_decide_eq_false h; omega
                  refine ⟨ByteArray, strC, noS, [wRc], ⟨rfl, fun _ => rfl⟩, ⟨.refl _, trivial⟩, rfl, ?_⟩
                  refine ⟨ByteArray, strC, noS, doM2 m ++ m.code.flatMap codeF ++ (m.catches.take i).flatMap catF, [wRc], 85, ⟨.refl _, .own ..⟩, fun _ => rfl, (by simp only [List.length_append, List.length_cons, List.length_nil]; omega), ?_⟩
                  exact ⟨.ownEq (by rw [doesF_code ha, hge2, List.take_length]), rfl⟩
          case true =>
            refine ⟨fun h => ?_, fun h => ?_⟩
            · have hlt : i < m.code.length := by have := of_decide_eq_true h; omega
              have hs := flat_snoc codeF m.code ins0 i hlt
              have hx := ins_parts (hp6.2 _ (getT_mem m.code ins0 i hlt))
              have hr := nums_R (m.code.getD i ins0).op
              have hcx := codeF_len (m.code.getD i ins0)
              refine ⟨⟨by omega, by omega⟩, ?_⟩
              refine ⟨m.code.getD i ins0, ⟨.refl _, trivial⟩, rfl, ⟨by omega, by omega⟩, ?_⟩
              refine ⟨ByteArray, strC, noS, doM2 m ++ (m.code.take i).flatMap codeF, codeF (m.code.getD i ins0), 63, ⟨.refl _, .own ..⟩, fun _ => rfl, (by simp only [List.length_append]; omega), ?_⟩
              exact ⟨(i + 1, true), hlt, by show m.code.length - (i + 1) < m.code.length - i; omega, ⟨rfl, rfl⟩, .refl _, .ownEq (by rw [hs, List.append_assoc]), .refl _, .int hwj, .refl _, ⟨.refl _, .refl _, .refl _, .refl _, .refl _, .refl _, .refl _, .refl _, .refl _, trivial⟩, trivial⟩
            · have hge : i = m.code.length := by have := of_decide_eq_false h; omega
              have hcb := hcl m.code.length
              rw [List.take_length] at hcb
              clear hwj hbi h hi hi1
              refine ⟨Nat × Bool, fun s => [(3, .own ByteArray 1 strC noS (doM2 m ++ m.code.flatMap codeF ++ (m.catches.take s.1).flatMap catF) (cond s.2 85 63)), (67, I m.catches.length), (68, I s.1), (66, .row Cat 4 catC cat0 m.catches)], fun _ => [], fun s => s.1 ≤ m.catches.length, fun s => m.catches.length - s.1,
                ⟨(0, false), Nat.zero_le _, ⟨⟨rfl, rfl⟩, .ownEq (by rw [hge, List.take_length]; simp), .refl _, .refl _, .refl _, trivial⟩⟩, fun ((i, b) : Nat × Bool) hi => ?_⟩
              have hi1 : i ≤ m.catches.length := hi
              have hwj : IntKind.i64.wrap ((i : Int) + 1) = ((i + 1 : Nat) : Int) := by rw [wrap_eq _ (by omega) (by omega)]; omega
              have hbi := hkl i
              cases b
              case false =>
                refine ⟨fun h => ?_, fun h => ?_⟩
                · have hlt : i < m.catches.length := by have := of_decide_eq_true h; omega
                  have hs := flat_snoc catF m.catches cat0 i hlt
                  have hx := cat_parts (hp7.2 _ (getT_mem m.catches cat0 i hlt))
                  refine ⟨⟨by omega, by omega⟩, ?_⟩
                  refine ⟨by kernel_rfl, ?_⟩
                  refine ⟨(m.catches.getD i cat0).fr, ⟨.refl _, trivial⟩, rfl, ⟨by omega, by omega⟩, ?_⟩
                  refine ⟨(m.catches.getD i cat0).up, ⟨.refl _, trivial⟩, rfl, ⟨by omega, by omega⟩, ?_⟩
                  refine ⟨(m.catches.getD i cat0).at', ⟨.refl _, trivial⟩, rfl, ⟨by omega, by omega⟩, ?_⟩
                  refine ⟨ByteArray, strC, noS, catF (m.catches.getD i cat0), ⟨rfl, fun _ => rfl⟩, ⟨.refl _, .refl _, .refl _, .refl _, .refl _, .refl _, trivial⟩, rfl, ?_⟩
                  refine ⟨ByteArray, strC, noS, doM2 m ++ m.code.flatMap codeF ++ (m.catches.take i).flatMap catF, catF (m.catches.getD i cat0), 63, ⟨.refl _, .own ..⟩, fun _ => rfl, (by simp only [List.length_append, catF_len]; omega), ?_⟩
                  exact ⟨(i + 1, true), hlt, by show m.catches.length - (i + 1) < m.catches.length - i; omega, ⟨rfl, rfl⟩, .ownEq (by rw [hs]; simp), .refl _, .int hwj, .refl _, trivial⟩
                · have hge2 : i = m.catches.length := by have := of_decide_eq_false h; omega
                  refine ⟨ByteArray, strC, noS, [wRc], ⟨rfl, fun _ => rfl⟩, ⟨.refl _, trivial⟩, rfl, ?_⟩
                  refine ⟨ByteArray, strC, noS, doM2 m ++ m.code.flatMap codeF ++ (m.catches.take i).flatMap catF, [wRc], 63, ⟨.refl _, .own ..⟩, fun _ => rfl, (by simp only [List.length_append, List.length_cons, List.length_nil]; omega), ?_⟩
                  exact ⟨.ownEq (by rw [doesF_code ha, hge2, List.take_length]), rfl⟩
              case true =>
                refine ⟨fun h => ?_, fun h => ?_⟩
                · have hlt : i < m.catches.length := by have := of_decide_eq_true h; omega
                  have hs := flat_snoc catF m.catches cat0 i hlt
                  have hx := cat_parts (hp7.2 _ (getT_mem m.catches cat0 i hlt))
                  refine ⟨⟨by omega, by omega⟩, ?_⟩
                  refine ⟨by kernel_rfl, ?_⟩
                  refine ⟨(m.catches.getD i cat0).fr, ⟨.refl _, trivial⟩, rfl, ⟨by omega, by omega⟩, ?_⟩
                  refine ⟨(m.catches.getD i cat0).up, ⟨.refl _, trivial⟩, rfl, ⟨by omega, by omega⟩, ?_⟩
                  refine ⟨(m.catches.getD i cat0).at', ⟨.refl _, trivial⟩, rfl, ⟨by omega, by omega⟩, ?_⟩
                  refine ⟨ByteArray, strC, noS, catF (m.catches.getD i cat0), ⟨rfl, fun _ => rfl⟩, ⟨.refl _, .refl _, .refl _, .refl _, .refl _, .refl _, trivial⟩, rfl, ?_⟩
                  refine ⟨ByteArray, strC, noS, doM2 m ++ m.code.flatMap codeF ++ (m.catches.take i).flatMap catF, catF (m.catches.getD i cat0), 85, ⟨.refl _, .own ..⟩, fun _ => rfl, (by simp only [List.length_append, catF_len]; omega), ?_⟩
                  exact ⟨(i + 1, true), hlt, by show m.catches.length - (i + 1) < m.catches.length - i; omega, ⟨rfl, rfl⟩, .ownEq (by rw [hs]; simp), .refl _, .int hwj, .refl _, trivial⟩
                · have hge2 : i = m.catches.length := by have := of_decide_eq_false h; omega
                  refine ⟨ByteArray, strC, noS, [wRc], ⟨rfl, fun _ => rfl⟩, ⟨.refl _, trivial⟩, rfl, ?_⟩
                  refine ⟨ByteArray, strC, noS, doM2 m ++ m.code.flatMap codeF ++ (m.catches.take i).flatMap catF, [wRc], 85, ⟨.refl _, .own ..⟩, fun _ => rfl, (by simp only [List.length_append, List.length_cons, List.length_nil]; omega), ?_⟩
                  exact ⟨.ownEq (by rw [doesF_code ha, hge2, List.take_length]), rfl⟩
    case true =>
      refine ⟨fun h => ?_, fun h => ?_⟩
      · have hlt : i < m.params.length := by have := of_decide_eq_true h; omega
        have hs := paramsF_snoc m.params i hlt
        refine ⟨⟨by omega, by omega⟩, ?_⟩
        refine ⟨fun h3 => ?_, fun h3 => ?_⟩
        · have h3 := of_decide_eq_true h3
          rw [if_neg (by omega)] at hs
          refine ⟨ByteArray, strC, noS, [wComma], ⟨rfl, fun _ => rfl⟩, ⟨.refl _, trivial⟩, rfl, ?_⟩
          refine ⟨ByteArray, strC, noS, hdM m ++ paramsF (m.params.take i), [wComma], 33, ⟨.refl _, .own ..⟩, fun _ => rfl, (by unfold hdM; simp only [List.length_append, List.length_cons, List.length_nil]; omega), ?_⟩
          refine ⟨m.params.getD i ty0, ⟨.refl _, trivial⟩, rfl, trivial, ?_⟩
          refine ⟨ByteArray, strC, noS, hdM m ++ paramsF (m.params.take i) ++ [wComma], kindW (m.params.getD i ty0), 29, ⟨.refl _, .own ..⟩, fun _ => rfl, (by unfold hdM; simp only [List.length_append, List.length_cons, List.length_nil]; omega), ?_⟩
          exact ⟨(i + 1, true), ⟨hlt, fun c => by cases c⟩, by show m.params.length - (i + 1) < m.params.length - i; omega, ⟨rfl, rfl⟩, .refl _, .ownEq (by rw [hs]; simp), .refl _, .int hwj, .refl _, ⟨.refl _, .refl _, .refl _, .refl _, .refl _, .refl _, .refl _, .refl _, .refl _, trivial⟩, trivial⟩
        · have h3 := of_decide_eq_false h3
          rw [if_pos (by omega)] at hs
          refine ⟨m.params.getD i ty0, ⟨.refl _, trivial⟩, rfl, trivial, ?_⟩
          refine ⟨ByteArray, strC, noS, hdM m ++ paramsF (m.params.take i), kindW (m.params.getD i ty0), 33, ⟨.refl _, .own ..⟩, fun _ => rfl, (by unfold hdM; simp only [List.length_append, List.length_cons, List.length_nil]; omega), ?_⟩
          exact ⟨(i + 1, true), ⟨hlt, fun c => by cases c⟩, by show m.params.length - (i + 1) < m.params.length - i; omega, ⟨rfl, rfl⟩, .refl _, .ownEq (by rw [hs]; simp), .refl _, .int hwj, .refl _, ⟨.refl _, .refl _, .refl _, .refl _, .refl _, .refl _, .refl _, .refl _, .refl _, trivial⟩, trivial⟩
      · have hge : i = m.params.length := by have := of_decide_eq_false h; omega
        refine ⟨Unit, fun _ => [(1, .box 1 0), (3, .own ByteArray 1 strC noS (doM1 m) 41)], fun _ => [(1, methC m)], fun _ => True, ?_, fun _ _ => ?_⟩
        · refine ⟨by kernel_rfl, ?_⟩
          refine ⟨ByteArray, strC, noS, [wRp], ⟨rfl, fun _ => rfl⟩, ⟨.refl _, trivial⟩, rfl, ?_⟩
          refine ⟨ByteArray, strC, noS, hdM m ++ paramsF (m.params.take i), [wRp], 33, ⟨.refl _, .own ..⟩, fun _ => rfl, (by unfold hdM; simp only [List.length_append, List.length_cons, List.length_nil]; omega), ?_⟩
          refine ⟨m.ret, ⟨.refl _, trivial⟩, rfl, trivial, ?_⟩
          refine ⟨ByteArray, strC, noS, hdM m ++ paramsF (m.params.take i) ++ [wRp], kindW m.ret, 37, ⟨.refl _, .own ..⟩, fun _ => rfl, (by unfold hdM; simp only [List.length_append, List.length_cons, List.length_nil]; omega), ?_⟩
          exact ⟨(), trivial, ⟨rfl, rfl⟩, .refl _, .ownEq (by unfold doM1; rw [hge, List.take_length]), ⟨.refl _, .refl _, .refl _, .refl _, .refl _, .refl _, .refl _, .refl _, .refl _, trivial⟩, trivial⟩
        clear hwj hbi hti hki h hi hi1
        refine ⟨fun ha => ?_, fun ha => ?_⟩
        · refine ⟨ByteArray, strC, noS, [wSemi], ⟨rfl, fun _ => rfl⟩, ⟨.refl _, trivial⟩, rfl, ?_⟩
          refine ⟨ByteArray, strC, noS, doM1 m, [wSemi], 41, ⟨.refl _, .own ..⟩, fun _ => rfl, (by simp only [List.length_cons, List.length_nil]; omega), ?_⟩
          exact ⟨.ownEq (doesF_abs ha).symm, rfl⟩
        · refine ⟨m.locals, ⟨.refl _, trivial⟩, rfl, ⟨by omega, by omega⟩, ?_⟩
          refine ⟨ByteArray, strC, noS, [wLocals, dig m.locals, wLc], ⟨rfl, fun _ => rfl⟩, ⟨.refl _, .refl _, .refl _, trivial⟩, rfl, ?_⟩
          refine ⟨ByteArray, strC, noS, doM1 m, [wLocals, dig m.locals, wLc], 41, ⟨.refl _, .own ..⟩, fun _ => rfl, (by simp only [List.length_cons, List.length_nil]; omega), ?_⟩
          refine ⟨Nat × Bool, fun s => [(1, .box 1 0), (3, .own ByteArray 1 strC noS (doM2 m ++ (m.code.take s.1).flatMap codeF) (cond s.2 63 52)), (55, I m.code.length), (56, I s.1), (54, .row Ins 4 insC ins0 m.code)], fun _ => [(1, methC m)], fun s => s.1 ≤ m.code.length, fun s => m.code.length - s.1,
            ⟨(0, false), Nat.zero_le _, ⟨⟨rfl, rfl⟩, .refl _, .ownEq (by simp [doM2]), .refl _, .refl _, .refl _, ⟨.refl _, .refl _, .refl _, .refl _, .refl _, .refl _, .refl _, .refl _, .refl _, trivial⟩, trivial⟩⟩, fun ((i, b) : Nat × Bool) hi => ?_⟩
          have hi1 : i ≤ m.code.length := hi
          have hwj : IntKind.i64.wrap ((i : Int) + 1) = ((i + 1 : Nat) : Int) := by rw [wrap_eq _ (by omega) (by omega)]; omega
          have hbi := hcl i
          cases b
          case false =>
            refine ⟨fun h => ?_, fun h => ?_⟩
            · have hlt : i < m.code.length := by have := of_decide_eq_true h; omega
              have hs := flat_snoc codeF m.code ins0 i hlt
              have hx := ins_parts (hp6.2 _ (getT_mem m.code ins0 i hlt))
              have hr := nums_R (m.code.getD i ins0).op
              have hcx := codeF_len (m.code.getD i ins0)
              refine ⟨⟨by omega, by omega⟩, ?_⟩
              refine ⟨m.code.getD i ins0, ⟨.refl _, trivial⟩, rfl, ⟨by omega, by omega⟩, ?_⟩
              refine ⟨ByteArray, strC, noS, doM2 m ++ (m.code.take i).flatMap codeF, codeF (m.code.getD i ins0), 52, ⟨.refl _, .own ..⟩, fun _ => rfl, (by simp only [List.length_append]; omega), ?_⟩
              exact ⟨(i + 1, true), hlt, by show m.code.length - (i + 1) < m.code.length - i; omega, ⟨rfl, rfl⟩, .refl _, .ownEq (by rw [hs, List.append_assoc]), .refl _, .int hwj, .refl _, ⟨.refl _, .refl _, .refl _, .refl _, .refl _, .refl _, .refl _, .refl _, .refl _, trivial⟩, trivial⟩
            · have hge : i = m.code.length := by have := of_decide_eq_false h; omega
              have hcb := hcl m.code.length
              rw [List.take_length] at hcb
              clear hwj hbi h hi hi1
              refine ⟨Nat × Bool, fun s => [(3, .own ByteArray 1 strC noS (doM2 m ++ m.code.flatMap codeF ++ (m.catches.take s.1).flatMap catF) (cond s.2 85 52)), (67, I m.catches.length), (68, I s.1), (66, .row Cat 4 catC cat0 m.catches)], fun _ => [], fun s => s.1 ≤ m.catches.length, fun s => m.catches.length - s.1,
                ⟨(0, false), Nat.zero_le _, ⟨⟨rfl, rfl⟩, .ownEq (by rw [hge, List.take_length]; simp), .refl _, .refl _, .refl _, trivial⟩⟩, fun ((i, b) : Nat × Bool) hi => ?_⟩
              have hi1 : i ≤ m.catches.length := hi
              have hwj : IntKind.i64.wrap ((i : Int) + 1) = ((i + 1 : Nat) : Int) := by rw [wrap_eq _ (by omega) (by omega)]; omega
              have hbi := hkl i
              cases b
              case false =>
                refine ⟨fun h => ?_, fun h => ?_⟩
                · have hlt : i < m.catches.length := by have := of_decide_eq_true h; omega
                  have hs := flat_snoc catF m.catches cat0 i hlt
                  have hx := cat_parts (hp7.2 _ (getT_mem m.catches cat0 i hlt))
                  refine ⟨⟨by omega, by omega⟩, ?_⟩
                  refine ⟨by kernel_rfl, ?_⟩
                  refine ⟨(m.catches.getD i cat0).fr, ⟨.refl _, trivial⟩, rfl, ⟨by omega, by omega⟩, ?_⟩
                  refine ⟨(m.catches.getD i cat0).up, ⟨.refl _, trivial⟩, rfl, ⟨by omega, by omega⟩, ?_⟩
                  refine ⟨(m.catches.getD i cat0).at', ⟨.refl _, trivial⟩, rfl, ⟨by omega, by omega⟩, ?_⟩
                  refine ⟨ByteArray, strC, noS, catF (m.catches.getD i cat0), ⟨rfl, fun _ => rfl⟩, ⟨.refl _, .refl _, .refl _, .refl _, .refl _, .refl _, trivial⟩, rfl, ?_⟩
                  refine ⟨ByteArray, strC, noS, doM2 m ++ m.code.flatMap codeF ++ (m.catches.take i).flatMap catF, catF (m.catches.getD i cat0), 52, ⟨.refl _, .own ..⟩, fun _ => rfl, (by simp only [List.length_append, catF_len]; omega), ?_⟩
                  exact ⟨(i + 1, true), hlt, by show m.catches.length - (i + 1) < m.catches.length - i; omega, ⟨rfl, rfl⟩, .ownEq (by rw [hs]; simp), .refl _, .int hwj, .refl _, trivial⟩
                · have hge2 : i = m.catches.length := by have := of_decide_eq_false h; omega
                  refine ⟨ByteArray, strC, noS, [wRc], ⟨rfl, fun _ => rfl⟩, ⟨.refl _, trivial⟩, rfl, ?_⟩
                  refine ⟨ByteArray, strC, noS, doM2 m ++ m.code.flatMap codeF ++ (m.catches.take i).flatMap catF, [wRc], 52, ⟨.refl _, .own ..⟩, fun _ => rfl, (by simp only [List.length_append, List.length_cons, List.length_nil]; omega), ?_⟩
                  exact ⟨.ownEq (by rw [doesF_code ha, hge2, List.take_length]), rfl⟩
              case true =>
                refine ⟨fun h => ?_, fun h => ?_⟩
                · have hlt : i < m.catches.length := by have := of_decide_eq_true h; omega
                  have hs := flat_snoc catF m.catches cat0 i hlt
                  have hx := cat_parts (hp7.2 _ (getT_mem m.catches cat0 i hlt))
                  refine ⟨⟨by omega, by omega⟩, ?_⟩
                  refine ⟨by kernel_rfl, ?_⟩
                  refine ⟨(m.catches.getD i cat0).fr, ⟨.refl _, trivial⟩, rfl, ⟨by omega, by omega⟩, ?_⟩
                  refine ⟨(m.catches.getD i cat0).up, ⟨.refl _, trivial⟩, rfl, ⟨by omega, by omega⟩, ?_⟩
                  refine ⟨(m.catches.getD i cat0).at', ⟨.refl _, trivial⟩, rfl, ⟨by omega, by omega⟩, ?_⟩
                  refine ⟨ByteArray, strC, noS, catF (m.catches.getD i cat0), ⟨rfl, fun _ => rfl⟩, ⟨.refl _, .refl _, .refl _, .refl _, .refl _, .refl _, trivial⟩, rfl, ?_⟩
                  refine ⟨ByteArray, strC, noS, doM2 m ++ m.code.flatMap codeF ++ (m.catches.take i).flatMap catF, catF (m.catches.getD i cat0), 85, ⟨.refl _, .own ..⟩, fun _ => rfl, (by simp only [List.length_append, catF_len]; omega), ?_⟩
                  exact ⟨(i + 1, true), hlt, by show m.catches.length - (i + 1) < m.catches.length - i; omega, ⟨rfl, rfl⟩, .ownEq (by rw [hs]; simp), .refl _, .int hwj, .refl _, trivial⟩
                · have hge2 : i = m.catches.length := by have := of_decide_eq_false h; omega
                  refine ⟨ByteArray, strC, noS, [wRc], ⟨rfl, fun _ => rfl⟩, ⟨.refl _, trivial⟩, rfl, ?_⟩
                  refine ⟨ByteArray, strC, noS, doM2 m ++ m.code.flatMap codeF ++ (m.catches.take i).flatMap catF, [wRc], 85, ⟨.refl _, .own ..⟩, fun _ => rfl, (by simp only [List.length_append, List.length_cons, List.length_nil]; omega), ?_⟩
                  exact ⟨.ownEq (by rw [doesF_code ha, hge2, List.take_length]), rfl⟩
          case true =>
            refine ⟨fun h => ?_, fun h => ?_⟩
            · have hlt : i < m.code.length := by have := of_decide_eq_true h; omega
              have hs := flat_snoc codeF m.code ins0 i hlt
              have hx := ins_parts (hp6.2 _ (getT_mem m.code ins0 i hlt))
              have hr := nums_R (m.code.getD i ins0).op
              have hcx := codeF_len (m.code.getD i ins0)
              refine ⟨⟨by omega, by omega⟩, ?_⟩
              refine ⟨m.code.getD i ins0, ⟨.refl _, trivial⟩, rfl, ⟨by omega, by omega⟩, ?_⟩
              refine ⟨ByteArray, strC, noS, doM2 m ++ (m.code.take i).flatMap codeF, codeF (m.code.getD i ins0), 63, ⟨.refl _, .own ..⟩, fun _ => rfl, (by simp only [List.length_append]; omega), ?_⟩
              exact ⟨(i + 1, true), hlt, by show m.code.length - (i + 1) < m.code.length - i; omega, ⟨rfl, rfl⟩, .refl _, .ownEq (by rw [hs, List.append_assoc]), .refl _, .int hwj, .refl _, ⟨.refl _, .refl _, .refl _, .refl _, .refl _, .refl _, .refl _, .refl _, .refl _, trivial⟩, trivial⟩
            · have hge : i = m.code.length := by have := of_decide_eq_false h; omega
              have hcb := hcl m.code.length
              rw [List.take_length] at hcb
              clear hwj hbi h hi hi1
              refine ⟨Nat × Bool, fun s => [(3, .own ByteArray 1 strC noS (doM2 m ++ m.code.flatMap codeF ++ (m.catches.take s.1).flatMap catF) (cond s.2 85 63)), (67, I m.catches.length), (68, I s.1), (66, .row Cat 4 catC cat0 m.catches)], fun _ => [], fun s => s.1 ≤ m.catches.length, fun s => m.catches.length - s.1,
                ⟨(0, false), Nat.zero_le _, ⟨⟨rfl, rfl⟩, .ownEq (by rw [hge, List.take_length]; simp), .refl _, .refl _, .refl _, trivial⟩⟩, fun ((i, b) : Nat × Bool) hi => ?_⟩
              have hi1 : i ≤ m.catches.length := hi
              have hwj : IntKind.i64.wrap ((i : Int) + 1) = ((i + 1 : Nat) : Int) := by rw [wrap_eq _ (by omega) (by omega)]; omega
              have hbi := hkl i
              cases b
              case false =>
                refine ⟨fun h => ?_, fun h => ?_⟩
                · have hlt : i < m.catches.length := by have := of_decide_eq_true h; omega
                  have hs := flat_snoc catF m.catches cat0 i hlt
                  have hx := cat_parts (hp7.2 _ (getT_mem m.catches cat0 i hlt))
                  refine ⟨⟨by omega, by omega⟩, ?_⟩
                  refine ⟨by kernel_rfl, ?_⟩
                  refine ⟨(m.catches.getD i cat0).fr, ⟨.refl _, trivial⟩, rfl, ⟨by omega, by omega⟩, ?_⟩
                  refine ⟨(m.catches.getD i cat0).up, ⟨.refl _, trivial⟩, rfl, ⟨by omega, by omega⟩, ?_⟩
                  refine ⟨(m.catches.getD i cat0).at', ⟨.refl _, trivial⟩, rfl, ⟨by omega, by omega⟩, ?_⟩
                  refine ⟨ByteArray, strC, noS, catF (m.catches.getD i cat0), ⟨rfl, fun _ => rfl⟩, ⟨.refl _, .refl _, .refl _, .refl _, .refl _, .refl _, trivial⟩, rfl, ?_⟩
                  refine ⟨ByteArray, strC, noS, doM2 m ++ m.code.flatMap codeF ++ (m.catches.take i).flatMap catF, catF (m.catches.getD i cat0), 63, ⟨.refl _, .own ..⟩, fun _ => rfl, (by simp only [List.length_append, catF_len]; omega), ?_⟩
                  exact ⟨(i + 1, true), hlt, by show m.catches.length - (i + 1) < m.catches.length - i; omega, ⟨rfl, rfl⟩, .ownEq (by rw [hs]; simp), .refl _, .int hwj, .refl _, trivial⟩
                · have hge2 : i = m.catches.length := by have := of_decide_eq_false h; omega
                  refine ⟨ByteArray, strC, noS, [wRc], ⟨rfl, fun _ => rfl⟩, ⟨.refl _, trivial⟩, rfl, ?_⟩
                  refine ⟨ByteArray, strC, noS, doM2 m ++ m.code.flatMap codeF ++ (m.catches.take i).flatMap catF, [wRc], 63, ⟨.refl _, .own ..⟩, fun _ => rfl, (by simp only [List.length_append, List.length_cons, List.length_nil]; omega), ?_⟩
                  exact ⟨.ownEq (by rw [doesF_code ha, hge2, List.take_length]), rfl⟩
              case true =>
                refine ⟨fun h => ?_, fun h => ?_⟩
                · have hlt : i < m.catches.length := by have := of_decide_eq_true h; omega
                  have hs := flat_snoc catF m.catches cat0 i hlt
                  have hx := cat_parts (hp7.2 _ (getT_mem m.catches cat0 i hlt))
                  refine ⟨⟨by omega, by omega⟩, ?_⟩
                  refine ⟨by kernel_rfl, ?_⟩
                  refine ⟨(m.catches.getD i cat0).fr, ⟨.refl _, trivial⟩, rfl, ⟨by omega, by omega⟩, ?_⟩
                  refine ⟨(m.catches.getD i cat0).up, ⟨.refl _, trivial⟩, rfl, ⟨by omega, by omega⟩, ?_⟩
                  refine ⟨(m.catches.getD i cat0).at', ⟨.refl _, trivial⟩, rfl, ⟨by omega, by omega⟩, ?_⟩
                  refine ⟨ByteArray, strC, noS, catF (m.catches.getD i cat0), ⟨rfl, fun _ => rfl⟩, ⟨.refl _, .refl _, .refl _, .refl _, .refl _, .refl _, trivial⟩, rfl, ?_⟩
                  refine ⟨ByteArray, strC, noS, doM2 m ++ m.code.flatMap codeF ++ (m.catches.take i).flatMap catF, catF (m.catches.getD i cat0), 85, ⟨.refl _, .own ..⟩, fun _ => rfl, (by simp only [List.length_append, catF_len]; omega), ?_⟩
                  exact ⟨(i + 1, true), hlt, by show m.catches.length - (i + 1) < m.catches.length - i; omega, ⟨rfl, rfl⟩, .ownEq (by rw [hs]; simp), .refl _, .int hwj, .refl _, trivial⟩
                · have hge2 : i = m.catches.length := by have := of_decide_eq_false h; omega
                  refine ⟨ByteArray, strC, noS, [wRc], ⟨rfl, fun _ => rfl⟩, ⟨.refl _, trivial⟩, rfl, ?_⟩
                  refine ⟨ByteArray, strC, noS, doM2 m ++ m.code.flatMap codeF ++ (m.catches.take i).flatMap catF, [wRc], 85, ⟨.refl _, .own ..⟩, fun _ => rfl, (by simp only [List.length_append, List.length_cons, List.length_nil]; omega), ?_⟩
                  exact ⟨.ownEq (by rw [doesF_code ha, hge2, List.take_length]), rfl⟩
end Go.Proofs.YtadimoijlgmecaaGreatDoor.Ax
