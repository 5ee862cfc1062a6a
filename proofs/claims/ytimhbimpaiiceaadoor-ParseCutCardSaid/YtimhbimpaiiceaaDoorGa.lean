/- Layer parse: what a reader of words does, in plain Lean. -/
import Derived.Test.YtimhbimpaiiceaaDoorLf
import Derived.Test.YtimhbimpaiiceaaDoorSc
import Derived.Test.YtimhbimpaiiceaaDoorSe
set_option linter.unusedVariables false
set_option linter.unusedSimpArgs false
namespace Go.Proofs.YtimhbimpaiiceaaDoor.Ax
open Go Go.RowKit
abbrev Ty := Int × ByteArray
structure Fld where
  name : ByteArray
  type : Ty
  static : Bool
structure Ins where
  op : Int
  n : Int
  a : ByteArray
  b : ByteArray
structure Cat where
  name : ByteArray
  fr : Int
  up : Int
  at' : Int
structure Meth where
  name : ByteArray
  static : Bool
  abs : Bool
  params : List Ty
  ret : Ty
  locals : Int
  code : List Ins
  catches : List Cat
structure Cls where
  name : ByteArray
  iface : Bool
  super : ByteArray
  ifaces : List ByteArray
  fields : List Fld
  methods : List Meth
instance : DecidableEq Fld := fun a b => decidable_of_iff (a.name = b.name ∧ a.type = b.type ∧ a.static = b.static) (by cases a; cases b; simp)
instance : DecidableEq Ins := fun a b => decidable_of_iff (a.op = b.op ∧ a.n = b.n ∧ a.a = b.a ∧ a.b = b.b) (by cases a; cases b; simp)
instance : DecidableEq Cat := fun a b => decidable_of_iff (a.name = b.name ∧ a.fr = b.fr ∧ a.up = b.up ∧ a.at' = b.at') (by cases a; cases b; simp)
instance : DecidableEq Meth := fun a b => decidable_of_iff (a.name = b.name ∧ a.static = b.static ∧ a.abs = b.abs ∧ a.params = b.params ∧ a.ret = b.ret ∧ a.locals = b.locals ∧ a.code = b.code ∧ a.catches = b.catches) (by cases a; cases b; simp)
instance : DecidableEq Cls := fun a b => decidable_of_iff (a.name = b.name ∧ a.iface = b.iface ∧ a.super = b.super ∧ a.ifaces = b.ifaces ∧ a.fields = b.fields ∧ a.methods = b.methods) (by cases a; cases b; simp)
abbrev noS : ByteArray := ⟨#[]⟩
abbrev ty0 : Ty := (0, noS)
abbrev fld0 : Fld := ⟨noS, ty0, false⟩
abbrev ins0 : Ins := ⟨0, 0, noS, noS⟩
abbrev cat0 : Cat := ⟨noS, 0, 0, 0⟩
abbrev meth0 : Meth := ⟨noS, false, false, [], ty0, 0, [], []⟩
abbrev cls0 : Cls := ⟨noS, false, noS, [], [], []⟩
def tyC (t : Ty) : List SV := [I t.1, S t.2]
def fldC (f : Fld) : List SV := [S f.name, I f.type.1, S f.type.2, B f.static]
def insC (x : Ins) : List SV := [I x.op, I x.n, S x.a, S x.b]
def catC (c : Cat) : List SV := [S c.name, I c.fr, I c.up, I c.at']
def methC (m : Meth) : List SV := [S m.name, B m.static, B m.abs, .row Ty 2 tyC ty0 m.params, I m.ret.1, S m.ret.2, I m.locals, .row Ins 4 insC ins0 m.code, .row Cat 4 catC cat0 m.catches]
def clsC (c : Cls) : List SV := [S c.name, B c.iface, S c.super, .row ByteArray 1 strC noS c.ifaces, .row Fld 4 fldC fld0 c.fields, .row Meth 9 methC meth0 c.methods]
abbrev prgR (l : List Cls) : SV := .row Cls 6 clsC cls0 l

/-- The reader: words, where the text ends, the next word, where something is wrong, what. -/
structure Rs where
  L : List Tok
  n : Int
  i : Nat
  at' : Int
  e : Int
def rsC (r : Rs) : List SV := [.row Tok 4 tokC tok0 r.L, I r.i, I r.n, I r.at', I r.e]
def keptW (s : ByteArray) : Bool := keptF s.data.toList
def opV (s : ByteArray) : Int := Lib.idxOfS opsL s
def wVoid : ByteArray := ⟨#[118, 111, 105, 100]⟩
def wInt : ByteArray := ⟨#[105, 110, 116]⟩
def wLb : ByteArray := ⟨#[91]⟩
def wRb : ByteArray := ⟨#[93]⟩
def wLp : ByteArray := ⟨#[40]⟩
def wRp : ByteArray := ⟨#[41]⟩
def wLc : ByteArray := ⟨#[123]⟩
def wRc : ByteArray := ⟨#[125]⟩
def wComma : ByteArray := ⟨#[44]⟩
def wSemi : ByteArray := ⟨#[59]⟩
def wColon : ByteArray := ⟨#[58]⟩
def wLocals : ByteArray := ⟨#[108, 111, 99, 97, 108, 115]⟩
def wCatch : ByteArray := ⟨#[99, 97, 116, 99, 104]⟩
def wField : ByteArray := ⟨#[102, 105, 101, 108, 100]⟩
def wStatic : ByteArray := ⟨#[115, 116, 97, 116, 105, 99]⟩
def wMethod : ByteArray := ⟨#[109, 101, 116, 104, 111, 100]⟩
def wFunction : ByteArray := ⟨#[102, 117, 110, 99, 116, 105, 111, 110]⟩
def wClass : ByteArray := ⟨#[99, 108, 97, 115, 115]⟩
def wInterface : ByteArray := ⟨#[105, 110, 116, 101, 114, 102, 97, 99, 101]⟩
def wExtends : ByteArray := ⟨#[101, 120, 116, 101, 110, 100, 115]⟩
def wImplements : ByteArray := ⟨#[105, 109, 112, 108, 101, 109, 101, 110, 116, 115]⟩

namespace Rs
def fail (r : Rs) (e : Int) : Rs := if r.e = 0 then ⟨r.L, r.n, r.i, if r.i < r.L.length then (r.L.getD r.i tok0).2.2.2 else r.n, e⟩ else r
def next (r : Rs) : Tok := if r.e = 0 ∧ r.i < r.L.length then r.L.getD r.i tok0 else tok0
def is (r : Rs) (w : ByteArray) : Bool := decide (r.next.2.1 = w) && decide (w ≠ noS)
def step (r : Rs) : Rs := ⟨r.L, r.n, r.i + 1, r.at', r.e⟩
def take (r : Rs) (w : ByteArray) : Rs := if r.is w then r.step else r
def want (r : Rs) (w : ByteArray) : Rs := if r.is w then r.step else r.fail 4
def free (r : Rs) : Bool := decide (r.next.1 = 1) && !keptW r.next.2.1
def freshV (r : Rs) : ByteArray := if r.free then r.next.2.1 else noS
def fresh (r : Rs) : Rs := if r.free then r.step else r.fail 4
def numOk (r : Rs) (lo hi : Int) : Bool := decide (r.next.1 = 2 ∧ lo ≤ r.next.2.2.1 ∧ r.next.2.2.1 ≤ hi)
def numV (r : Rs) (lo hi : Int) : Int := if r.numOk lo hi then r.next.2.2.1 else 0
def num (r : Rs) (lo hi : Int) : Rs := if r.numOk lo hi then r.step else r.fail 4
def room (r : Rs) (many most : Int) : Rs := if many ≥ most then r.fail 2 else r
/-- how many rounds there may be yet -/
def need (r : Rs) : Nat := if r.e = 0 then r.L.length - r.i + 2 else 1
def name1 (r : Rs) (k : Int) : Rs := if r.step.free then r.step.room k 4 else r.step
def namesL : Nat → Rs → List ByteArray → List ByteArray × Rs
  | 0, r, out => (out, r)
  | f + 1, r, out => if r.is wComma then namesL f (r.name1 out.length).fresh (out ++ [(r.name1 out.length).freshV]) else (out, r)
def names (r : Rs) : List ByteArray × Rs := namesL (r.L.length + 2) r.fresh [r.freshV]
def rowR (r : Rs) : Rs := if r.is wLb then r.step.want wRb else r
def kindV (r : Rs) : Ty := if r.is wVoid then (1, noS) else if r.is wInt then (if r.step.is wLb then 4 else 2, noS) else (if r.fresh.is wLb then 5 else 3, r.freshV)
def kind (r : Rs) : Rs := if r.is wVoid then r.step else if r.is wInt then r.step.rowR else r.fresh.rowR
def param1 (r : Rs) (k : Int) : Rs := if r.step.free || r.step.is wInt || r.step.is wVoid then r.step.room k 4 else r.step
def paramsL : Nat → Rs → List Ty → List Ty × Rs
  | 0, r, out => (out, r)
  | f + 1, r, out => if r.is wComma then paramsL f (r.param1 out.length).kind (out ++ [(r.param1 out.length).kindV]) else (out, r)
def params (r : Rs) : List Ty × Rs := if (r.want wLp).is wRp then ([], (r.want wLp).step) else ((paramsL (r.L.length + 2) (r.want wLp).kind [(r.want wLp).kindV]).1, (paramsL (r.L.length + 2) (r.want wLp).kind [(r.want wLp).kindV]).2.want wRp)
def isOp (r : Rs) : Bool := decide (r.next.1 = 1) && decide (0 ≤ opV r.next.2.1)
def in1 (r : Rs) (many : Int) : Rs := (r.room many 48).want r.next.2.1
def in2 (r : Rs) (o : Int) : Rs := if (numsF o).2.2 then r.num (numsF o).1 (numsF o).2.1 else r
def in2V (r : Rs) (o : Int) : Int := if (numsF o).2.2 then r.numV (numsF o).1 (numsF o).2.1 else 0
def in3 (r : Rs) (b : Bool) : Rs := if b then r.fresh else r
def in3V (r : Rs) (b : Bool) : ByteArray := if b then r.freshV else noS
def inArgs (r : Rs) (o : Int) : Rs := ((r.in2 o).in3 (decide (namesF o > 0))).in3 (decide (namesF o > 1))
def inVal (r : Rs) (o : Int) : Ins := ⟨o, r.in2V o, (r.in2 o).in3V (decide (namesF o > 0)), ((r.in2 o).in3 (decide (namesF o > 0))).in3V (decide (namesF o > 1))⟩
def instr (r : Rs) (many : Int) : Ins × Rs := ((r.in1 many).inVal (opV r.next.2.1), ((r.in1 many).inArgs (opV r.next.2.1)).want wSemi)
def codeL : Nat → Rs → List Ins → List Ins × Rs
  | 0, r, out => (out, r)
  | f + 1, r, out => if r.isOp then codeL f (r.instr out.length).2 (out ++ [(r.instr out.length).1]) else (out, r)
def ca1 (r : Rs) (k : Int) : Rs := (r.room k 4).want wCatch
def catV (r : Rs) : Cat := ⟨r.freshV, r.fresh.numV 0 48, (r.fresh.num 0 48).numV 0 48, ((r.fresh.num 0 48).num 0 48).numV 0 48⟩
def catR (r : Rs) : Rs := (((r.fresh.num 0 48).num 0 48).num 0 48).want wSemi
def catchL : Nat → Rs → List Cat → List Cat × Rs
  | 0, r, out => (out, r)
  | f + 1, r, out => if r.is wCatch then catchL f (r.ca1 out.length).catR (out ++ [(r.ca1 out.length).catV]) else (out, r)
def bo1 (r : Rs) : Rs := ((r.want wLocals).num 0 8).want wLc
def boCode (r : Rs) : List Ins × Rs := codeL (r.L.length + 2) r.bo1 []
def boCat (r : Rs) : List Cat × Rs := catchL (r.L.length + 2) r.boCode.2 []
def body (r : Rs) : Rs := r.boCat.2.want wRc
def bodyV (r : Rs) (m : Meth) : Meth := ⟨m.name, m.static, m.abs, m.params, m.ret, (r.want wLocals).numV 0 8, r.boCode.1, r.boCat.1⟩
def mfV (r : Rs) (s : Bool) : Fld := ⟨r.freshV, (r.fresh.want wColon).kindV, s⟩
def mfR (r : Rs) : Rs := (r.fresh.want wColon).kind.want wSemi
def mm1 (r : Rs) : Rs := r.fresh.params.2.kind
def mm1V (r : Rs) (s : Bool) : Meth := ⟨r.freshV, s, r.mm1.is wSemi, r.fresh.params.1, r.fresh.params.2.kindV, 0, [], []⟩
def mmV (r : Rs) (s : Bool) : Meth := if r.mm1.is wSemi then r.mm1V s else r.mm1.bodyV (r.mm1V s)
def mmR (r : Rs) : Rs := if r.mm1.is wSemi then r.mm1.step else r.mm1.body
def memF (r : Rs) (k : Int) : Rs := (r.room k 6).want r.next.2.1
def member (r : Rs) (c : Cls) : Cls × Rs :=
  if r.next.2.1 = wField ∨ r.next.2.1 = wStatic then (⟨c.name, c.iface, c.super, c.ifaces, c.fields ++ [(r.memF c.fields.length).mfV (decide (r.next.2.1 = wStatic))], c.methods⟩, (r.memF c.fields.length).mfR)
  else if r.next.2.1 = wMethod ∨ r.next.2.1 = wFunction then (⟨c.name, c.iface, c.super, c.ifaces, c.fields, c.methods ++ [(r.memF c.methods.length).mmV (decide (r.next.2.1 = wFunction))]⟩, (r.memF c.methods.length).mmR)
  else (c, r.fail 4)
def clsL : Nat → Rs → Cls → Cls × Rs
  | 0, r, c => (c, r)
  | f + 1, r, c => if r.e = 0 then (if r.is wRc then (c, r.step) else clsL f (r.member c).2 (r.member c).1) else (c, r)
def cl1 (r : Rs) (many : Int) : Rs := (if r.is wClass || r.is wInterface then r.room many 10 else r).want (if r.is wInterface then wInterface else wClass)
/-- behind a class' name: its super, its interfaces -/
def ex1 (r : Rs) (ifc : Bool) : (ByteArray × List ByteArray) × Rs := if r.is wExtends then (if ifc then ((noS, r.step.names.1), r.step.names.2) else ((r.step.freshV, []), r.step.fresh)) else ((noS, []), r)
def ex2 (r : Rs) (ifc : Bool) (l : List ByteArray) : List ByteArray × Rs := if !ifc && r.is wImplements then r.step.names else (l, r)
def clV (r : Rs) (many : Int) : Cls := ⟨(r.cl1 many).freshV, r.is wInterface, ((r.cl1 many).fresh.ex1 (r.is wInterface)).1.1, (((r.cl1 many).fresh.ex1 (r.is wInterface)).2.ex2 (r.is wInterface) ((r.cl1 many).fresh.ex1 (r.is wInterface)).1.2).1, [], []⟩
def clR (r : Rs) (many : Int) : Rs := ((((r.cl1 many).fresh.ex1 (r.is wInterface)).2.ex2 (r.is wInterface) ((r.cl1 many).fresh.ex1 (r.is wInterface)).1.2).2).want wLc
def class' (r : Rs) (many : Int) : Cls × Rs := clsL (r.L.length + 2) (r.clR many) (r.clV many)
def prgL : Nat → Rs → List Cls → List Cls × Rs
  | 0, r, out => (out, r)
  | f + 1, r, out => if r.e = 0 ∧ r.i < r.L.length then prgL f (r.class' out.length).2 (out ++ [(r.class' out.length).1]) else (out, r)
end Rs
def parse0 (l : List UInt8) : Rs := ⟨(scanF l).1, l.length, 0, 0, 0⟩
def parseF (l : List UInt8) : List Cls × Int × Int :=
  if (scanF l).2.2 = 0 then (if (Rs.prgL ((scanF l).1.length + 2) (parse0 l) []).2.e = 0 then ((Rs.prgL ((scanF l).1.length + 2) (parse0 l) []).1, 0, 0) else ([], (Rs.prgL ((scanF l).1.length + 2) (parse0 l) []).2.at', (Rs.prgL ((scanF l).1.length + 2) (parse0 l) []).2.e)) else ([], (scanF l).2.1, (scanF l).2.2)
end Go.Proofs.YtimhbimpaiiceaaDoor.Ax
