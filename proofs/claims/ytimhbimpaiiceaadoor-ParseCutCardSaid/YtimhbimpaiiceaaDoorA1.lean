/- The logic's words: symbolic values, symbolic states, and what a piece of code comes to on them. -/
import Derived.Calls
import Derived.Orders
import Derived.KernelRfl
set_option linter.unusedVariables false
set_option linter.unusedSimpArgs false
namespace Go.Proofs.YtimhbimpaiiceaaDoor.Ax
open Go

/-- A symbolic value. -/
inductive SV : Type 1
  | val (v : Value)
  | tt
  | ff
  | row (T : Type) (sz : Nat) (cs : T → List SV) (d : T) (l : List T)
  | own (T : Type) (sz : Nat) (cs : T → List SV) (d : T) (l : List T) (id : Nat)
  | elt (T : Type) (sz : Nat) (cs : T → List SV) (d : T) (l : List T) (i : Int) (o : Nat)
  | box (b o : Nat)
  | arr (b sz off n : Nat) (cap : Option Nat)
  | plc (b sz : Nat) (i : Int) (o : Nat)
  | many (T : Type) (sz : Nat) (cs : T → List SV) (d : T) (l : List T)
  | ifc
  | e0
  | agg (l : List SV)
  | tup (l : List SV)
  | fn (g : Nat) (caps : List SV)
  | nb (Q : Bool → Prop)
  | junk

/-- A row of places, by halves: place 0 at the root, 1, 3, 5.. at the left, 2, 4, 6.. at the right. -/
inductive Tr (α : Type _) where
  | nil
  | node (v : α) (l r : Tr α)
def Tr.get {α : Type _} : Tr α → Nat → α → α
  | .nil, _, d => d
  | .node v l r, i, d => match i with
    | 0 => v
    | i + 1 => match Nat.mod i 2 with
      | 0 => l.get (Nat.div i 2) d
      | _ => r.get (Nat.div i 2) d
def Tr.put {α : Type _} : Tr α → Nat → α → Tr α
  | .nil, _, _ => .nil
  | .node x l r, i, v => match i with
    | 0 => .node v l r
    | i + 1 => match Nat.mod i 2 with
      | 0 => .node x (l.put (Nat.div i 2) v) r
      | _ => .node x l (r.put (Nat.div i 2) v)
/-- the same, told at once -/
def Tr.putK {α : Type _} : Tr α → Nat → α → (Tr α → Prop) → Prop
  | .nil, _, _, k => k .nil
  | .node x l r, i, v, k => match i with
    | 0 => k (.node v l r)
    | i + 1 => match Nat.mod i 2 with
      | 0 => l.putK (Nat.div i 2) v fun l => k (.node x l r)
      | _ => r.putK (Nat.div i 2) v fun r => k (.node x l r)
def Tr.has {α : Type _} : Tr α → Nat → Bool
  | .nil, _ => false
  | .node _ l r, i => match i with
    | 0 => true
    | i + 1 => match Nat.mod i 2 with
      | 0 => l.has (Nat.div i 2)
      | _ => r.has (Nat.div i 2)
/-- n places, all alike -/
def Tr.mk {α : Type _} (v : α) : Nat → Nat → Tr α
  | 0, _ => .nil
  | f + 1, n => match n with
    | 0 => .nil
    | n + 1 => .node v (Tr.mk v f (Nat.div (n + 1) 2)) (Tr.mk v f (Nat.div n 2))
def Tr.fill {α : Type _} : Tr α → Nat → List α → Tr α
  | t, _, [] => t
  | t, i, x :: xs => (t.put i x).fill (i + 1) xs
/-- all places below n, as a list -/
def Tr.list {α : Type _} (t : Tr α) (d : α) : Nat → Nat → List α
  | 0, _ => []
  | n + 1, i => t.get i d :: t.list d n (i + 1)

/-- A symbolic state: temporaries, boxes (variables in memory, by the temporary that was given their address). -/
structure ASt : Type 1 where
  fr : Tr SV
  bx : Tr (Option (List SV))

/-- What is known of a type. -/
structure TI where
  agg : Bool := false
  size : Nat := 1
  zero : List Value := []
  flds : List (Nat × Nat) := []
  slice : Bool := false
  str : Bool := false
  bool : Bool := false
  elem : Nat := 0
  bytes : Nat := 8
  int : Option IntKind := none
  iface : Bool := false

def assoc {α : Type _} : List (Nat × α) → Nat → α → α
  | [], _, d => d
  | (k, v) :: r, n, d => match Nat.beq k n with | true => v | false => assoc r n d
def at' {α : Type _} : List α → Nat → α → α
  | [], _, d => d
  | x :: _, 0, _ => x
  | _ :: xs, n + 1, d => at' xs n d
def dropN {α : Type _} : Nat → List α → List α
  | 0, l => l
  | _ + 1, [] => []
  | n + 1, _ :: xs => dropN n xs
def takeN {α : Type _} : Nat → List α → List α
  | 0, _ => []
  | _ + 1, [] => []
  | n + 1, x :: xs => x :: takeN n xs
/-- cells laid over others, from place o on -/
def over {α : Type _} : Nat → List α → List α → List α
  | _, _, [] => []
  | 0, [], ys => ys
  | 0, x :: xs, _ :: ys => x :: over 0 xs ys
  | o + 1, xs, y :: ys => y :: over o xs ys

/-- A function's contract: its arguments' values, when it holds, what it answers. -/
structure Ctr : Type 1 where
  A : Type
  enc : A → List SV
  dom : A → Prop
  res : A → Nat → SV
  fresh : Bool := false
  gl : World → Prop := fun _ => True

/-- A struct type's equality: its values, and when two are one. -/
structure EqC : Type 1 where
  A : Type
  cs : A → List SV
  eq : A → A → Bool

/-- A contract of a function that changes variables that it is handed. These are named 1000, 1001, .. as they are met; pre, post: their cells;
one more in post than in pre: a variable that it makes. -/
structure CtrB : Type 1 where
  A : Type
  enc : A → List SV
  pre : A → List (List SV)
  dom : A → Prop
  res : A → Nat → SV
  post : A → Nat → List (List SV)
  gl : World → Prop := fun _ => True

structure Env : Type 1 where
  ty : List (Nat × TI)
  ctr : Nat → Option Ctr
  eqs : Nat → Option EqC := fun _ => none
  ctrB : Nat → Option CtrB := fun _ => none
  bs : List Nat := []
  gl : World → Prop := fun _ => True

/-- a byte in memory; a row of bytes -/
def byteC (b : UInt8) : List SV := [.val (.int .u8 (b.toNat : Int))]
def byteRow (l : List UInt8) : SV := .row UInt8 1 byteC 0 l
def isU8 : Option IntKind → Bool
  | some k => match k with
    | .u8 => true
    | _ => false
  | none => false
def tiK {α : Type _} : List (Nat × α) → Nat → (α → Prop) → Prop
  | [], _, _ => False
  | (k, v) :: r, n, f => match Nat.beq k n with | true => f v | false => tiK r n f

def ev (s : ASt) : Operand → SV
  | .tmp t => s.fr.get t .junk
  | .const v => match v with
    | .bool b => match b with | true => .tt | false => .ff
    | .agg cs => .agg (cs.toList.map SV.val)
    | v => .val v
  | .global _ => .junk
  | .func f => .fn f []

def setK {α : Type _} (d : Option Nat) (v : α) (fr : Tr α) (k : Tr α → Prop) : Prop := match d with
  | some d => fr.putK d v k
  | none => k fr
def force (x : SV) (k : SV → Prop) : Prop := match x with
  | .val v => k (.val v)
  | .tt => k .tt
  | .ff => k .ff
  | .row T sz cs d l => k (.row T sz cs d l)
  | .own T sz cs d l id => k (.own T sz cs d l id)
  | .elt T sz cs d l i o => k (.elt T sz cs d l i o)
  | .box b o => k (.box b o)
  | .arr b z o n c => k (.arr b z o n c)
  | .plc b z i o => k (.plc b z i o)
  | .many T sz cs d l => k (.many T sz cs d l)
  | .ifc => k .ifc
  | .e0 => k .e0
  | .agg l => k (.agg l)
  | .tup l => k (.tup l)
  | .fn g l => k (.fn g l)
  | .nb Q => k (.nb Q)
  | .junk => k .junk
def forceL : List SV → (List SV → Prop) → Prop
  | [], k => k []
  | x :: xs, k => force x fun x => forceL xs fun xs => k (x :: xs)
def fldK : List (Nat × Nat) → Nat → (Nat → Nat → Prop) → Prop
  | [], _, _ => False
  | (o, t) :: _, 0, k => k o t
  | _ :: r, n + 1, k => fldK r n k
/-- a value's cells; what is one whole of them -/
def cellsK (x : SV) (k : List SV → Prop) : Prop := match x with
  | .agg l => k l
  | .tup _ => False
  | .junk => False
  | .val v => match v with | .agg _ => False | .tuple _ => False | v => k [.val v]
  | .tt => k [.tt]
  | .ff => k [.ff]
  | .row T sz cs d l => k [.row T sz cs d l]
  | .own T sz cs d l id => k [.own T sz cs d l id]
  | .elt T sz cs d l i o => k [.elt T sz cs d l i o]
  | .box b o => k [.box b o]
  | .arr b z o n c => k [.arr b z o n c]
  | .plc b z i o => k [.plc b z i o]
  | .many _ _ _ _ _ => False
  | .ifc => k [.ifc]
  | .e0 => k [.e0]
  | .fn g l => k [.fn g l]
  | .nb Q => k [.nb Q]
def wholeK (agg : Bool) (l : List SV) (k : SV → Prop) : Prop := match agg with
  | true => forceL l fun l => k (.agg l)
  | false => force (at' l 0 .junk) k
/-- a cell that may be stored -/
def cellOk : SV → Bool
  | .val v => match v with | .agg _ => false | .tuple _ => false | _ => true
  | .agg _ => false
  | .tup _ => false
  | .junk => false
  | .many _ _ _ _ _ => false
  | _ => true
/-- a variable of plain cells -/
def plain : List SV → Bool
  | [] => false
  | c :: _ => match c with
    | .many _ _ _ _ _ => false
    | _ => true
/-- a variable that is a row of places of any number -/
def manyK (cs : List SV) (k : (T : Type) → Nat → (T → List SV) → T → List T → Prop) : Prop := match cs with
  | [] => False
  | c :: r => match c with
    | .many T sz c d l => match r with
      | [] => k T sz c d l
      | _ :: _ => False
    | _ => False
def isMany : List SV → Bool
  | [] => false
  | c :: _ => match c with
    | .many _ _ _ _ _ => true
    | _ => false
/-- how many cells a variable has, and what they hold -/
def xlen : List SV → Nat
  | [.many _ sz _ _ l] => l.length * sz
  | cs => cs.length
def xat : List SV → Nat → SV
  | [.many _ sz c d l], j => at' (c (l.getD (j / sz) d)) (j % sz) .junk
  | cs, j => at' cs j .junk
def allOk : List SV → Bool
  | [] => true
  | x :: xs => match cellOk x with | true => allOk xs | false => false

/-- one value for another that says more -/
inductive Sub : SV → SV → Prop
  | refl (x) : Sub x x
  | junk (x) : Sub x .junk
  | own (T sz cs d l id) : Sub (.own T sz cs d l id) (.row T sz cs d l)
  | nil (T sz cs d) : Sub (.val (.slice none 0 0)) (.row T sz cs d [])
  | nilO (T sz cs d id) : Sub (.val (.slice none 0 0)) (.own T sz cs d [] id)
  | e0 (T sz cs d) : Sub .e0 (.row T sz cs d [])
  | e0O (T sz cs d id) : Sub .e0 (.own T sz cs d [] id)
  | nil0 : Sub (.val (.slice none 0 0)) .e0
  | nilA (b z o) : Sub (.val (.slice none 0 0)) (.arr b z o 0 none)
  | cap (b z o n c) : Sub (.arr b z o n c) (.arr b z o n none)
  | tt : Sub .tt (.val (.bool true))
  | ff : Sub .ff (.val (.bool false))
  | tt' : Sub (.val (.bool true)) .tt
  | ff' : Sub (.val (.bool false)) .ff
  | agg (a b) (h : a.length = b.length) (hs : ∀ j, j < a.length → Sub (at' a j .junk) (at' b j .junk)) : Sub (.agg a) (.agg b)
  | tup (a b) (h : a.length = b.length) (hs : ∀ j, j < a.length → Sub (at' a j .junk) (at' b j .junk)) : Sub (.tup a) (.tup b)
/-- lists of values, one by one -/
def SubL : List SV → List SV → Prop
  | [], [] => True
  | x :: xs, y :: ys => Sub x y ∧ SubL xs ys
  | _, _ => False

/-- what a bool is -/
def asB (x : SV) (k : Bool → Prop) : Prop := match x with
  | .tt => k true
  | .ff => k false
  | .val v => match v with | .bool b => k b | _ => False
  | _ => False
def ofB (b : Bool) : SV := .val (.bool b)
def notS : SV → SV
  | .tt => .ff
  | .ff => .tt
  | .val v => match v with | .bool b => .val (.bool (!b)) | _ => .junk
  | _ => .junk

def intBin (op : BinOp) (kk : IntKind) (a b : Int) (k : SV → Prop) : Prop := match op with
  | .add => k (.val (.int kk (kk.wrap (a + b))))
  | .sub => k (.val (.int kk (kk.wrap (a - b))))
  | .mul => k (.val (.int kk (kk.wrap (a * b))))
  | .quo => b ≠ 0 ∧ k (.val (.int kk (kk.wrap (a.tdiv b))))
  | .rem => b ≠ 0 ∧ k (.val (.int kk (a.tmod b)))
  | .eql => k (ofB (a == b))
  | .neq => k (ofB (a != b))
  | .lss => k (ofB (decide (a < b)))
  | .leq => k (ofB (decide (a ≤ b)))
  | .gtr => k (ofB (decide (a > b)))
  | .geq => k (ofB (decide (a ≥ b)))
  | _ => False
def ikEq : IntKind → IntKind → Bool
  | .i8, .i8 => true | .i16, .i16 => true | .i32, .i32 => true | .i64, .i64 => true
  | .u8, .u8 => true | .u16, .u16 => true | .u32, .u32 => true | .u64, .u64 => true
  | _, _ => false
def boolBin (op : BinOp) (a b : Bool) (k : SV → Prop) : Prop := match op with
  | .eql => k (ofB (a == b))
  | .neq => k (ofB (!(a == b)))
  | _ => False
def strBin (op : BinOp) (a b : ByteArray) (k : SV → Prop) : Prop := match op with
  | .add => (a.size + b.size < 4611686018427387904) ∧ k (.val (.string (a ++ b)))
  | .eql => k (ofB (a.toList == b.toList))
  | .neq => k (ofB (!(a.toList == b.toList)))
  | _ => False
def aggBin (op : BinOp) (b : Bool) (k : SV → Prop) : Prop := match op with
  | .eql => k (ofB b)
  | .neq => k (ofB (!b))
  | _ => False
def bool2 (E : Env) (t : Nat) (op : BinOp) (a : Bool) (y : SV) (k : SV → Prop) : Prop :=
  tiK E.ty t fun t => match t.bool with
    | true => asB y fun b => boolBin op a b k
    | false => False
/-- a row against nil: what has entries is none -/
def nilBin (E : Env) (t : Nat) (op : BinOp) (e : Bool) (y : SV) (k : SV → Prop) : Prop := tiK E.ty t fun t => match t.slice with
  | true => match y with
    | .val v => match v with
      | .slice a n c => match a with
        | none => match n with
          | 0 => match c with
            | 0 => match op with
              | .eql => k (.nb fun b => e = false → b = false)
              | .neq => k (.nb fun b => e = false → b = true)
              | _ => False
            | _ => False
          | _ => False
        | some _ => False
      | _ => False
    | _ => False
  | false => False
def isE {α : Type _} : List α → Bool
  | [] => true
  | _ :: _ => false
def isConst : Operand → Bool
  | .const _ => true
  | _ => false
/-- an interface's value against nil -/
def ifcBin (E : Env) (t : Nat) (op : BinOp) (b : Bool) (y : SV) (k : SV → Prop) : Prop := tiK E.ty t fun t => match t.iface with
  | true => match y with
    | .val v => match v with
      | .nilIface => aggBin op b k
      | _ => False
    | _ => False
  | false => False
def binK (E : Env) (t : Nat) (op : BinOp) (x y : SV) (c : Bool) (k : SV → Prop) : Prop := match x with
  | .row _ _ _ _ l => nilBin E t op (isE l) y k
  | .own _ _ _ _ l _ => nilBin E t op (isE l) y k
  | .val v => match v with
    | .int kk a => match y with
      | .val u => match u with
        | .int kk' b => match ikEq kk kk' with | true => intBin op kk a b k | false => False
        | _ => False
      | _ => False
    | .string a => match y with
      | .val u => match u with
        | .string b => strBin op a b k
        | _ => False
      | _ => False
    | .bool a => bool2 E t op a y k
    | .nilIface => match c with
      | true => ifcBin E t op true y k
      | false => False
    | _ => False
  | .tt => bool2 E t op true y k
  | .ff => bool2 E t op false y k
  | .ifc => ifcBin E t op false y k
  | .agg l => match y with
    | .agg r => match E.eqs t with
      | some c => ∃ u v : c.A, SubL l (c.cs u) ∧ SubL r (c.cs v) ∧ aggBin op (c.eq u v) k
      | none => False
    | _ => False
  | _ => False
def unK (op : UnOp) (x : SV) (k : SV → Prop) : Prop := match op with
  | .not => match x with
    | .tt => k .ff
    | .ff => k .tt
    | .val v => match v with | .bool b => k (ofB (!b)) | _ => False
    | _ => False
  | .neg => match x with
    | .val v => match v with | .int kk n => k (.val (.int kk (kk.wrap (0 - n)))) | _ => False
    | _ => False
  | _ => False

def lenK (x : SV) (k : SV → Prop) : Prop := match x with
  | .row _ _ _ _ l => k (.val (.int .i64 l.length))
  | .own _ _ _ _ l _ => k (.val (.int .i64 l.length))
  | .arr _ _ _ n _ => k (.val (.int .i64 n))
  | .e0 => k (.val (.int .i64 0))
  | .val v => match v with
    | .slice a n _ => match a with | none => (match n with | 0 => k (.val (.int .i64 0)) | _ => False) | some _ => False
    | _ => False
  | _ => False

/-- nothing in a value is a variable's address, or may grow -/
def imm : SV → Bool
  | .box _ _ => false
  | .arr _ _ _ _ _ => false
  | .plc _ _ _ _ => false
  | .own _ _ _ _ _ _ => false
  | .agg l => imms l
  | .tup l => imms l
  | .fn _ l => imms l
  | _ => true
where imms : List SV → Bool
  | [] => true
  | x :: xs => match imm x with | true => imms xs | false => false

def lenTK (E : Env) (ts : List Nat) (x : SV) (k : SV → Prop) : Prop := match ts with
  | [t] => tiK E.ty t fun t => match t.slice with
    | true => lenK x k
    | false => match t.str with
      | true => match x with
        | .val v => match v with | .string s => k (.val (.int .i64 s.size)) | _ => False
        | _ => False
      | false => False
  | _ => False
/-- a variable's cells, or a row, lent to a callee that only reads -/
def lendW (f : Nat → Nat → SV) (g : Nat → Nat → Nat → Nat → SV) : SV → SV
  | .own T sz cs d l _ => .row T sz cs d l
  | .box b o => f b o
  | .arr b z o n _ => g b z o n
  | .plc _ _ _ _ => .junk
  | .agg l => .agg (lendsW f g l)
  | .tup l => .tup (lendsW f g l)
  | .fn h l => .fn h (lendsW f g l)
  | x => x
where lendsW (f : Nat → Nat → SV) (g : Nat → Nat → Nat → Nat → SV) : List SV → List SV
  | [] => []
  | x :: xs => lendW f g x :: lendsW f g xs
def lookT : List (Nat × List SV) → Nat → Option (List SV)
  | [], _ => none
  | (k, v) :: r, n => match Nat.beq k n with
    | true => some v
    | false => lookT r n
def lendR (tb : List (Nat × List SV)) (b z off n : Nat) : SV := match lookT tb b with
  | some cs => manyK' cs .junk fun T sz c d l => match Nat.beq z sz with
    | true => .row T sz c d ((l.drop off).take n)
    | false => .junk
  | none => .junk
where manyK' (cs : List SV) (z : SV) (k : (T : Type) → Nat → (T → List SV) → T → List T → SV) : SV := match cs with
  | [] => z
  | c :: r => match c with
    | .many T sz c d l => match r with
      | [] => k T sz c d l
      | _ :: _ => z
    | _ => z
def lendB (tb : List (Nat × List SV)) : Nat → Nat → Nat → SV
  | 0, _, _ => .junk
  | n + 1, b, o => match lookT tb b with
    | some cs => match plain cs with
      | true => .elt Unit cs.length (fun _ => lendW.lendsW (lendB tb n) (lendR tb) cs) () [()] 0 o
      | false => .junk
    | none => .junk
/-- the variables that values name -/
def boxesOf : SV → List Nat → List Nat
  | .box b _, r => b :: r
  | .arr b _ _ _ _, r => b :: r
  | .plc b _ _ _, r => b :: r
  | .agg l, r => boxesOfs l r
  | .tup l, r => boxesOfs l r
  | .fn _ l, r => boxesOfs l r
  | _, r => r
where boxesOfs : List SV → List Nat → List Nat
  | [], r => r
  | x :: xs, r => boxesOf x (boxesOfs xs r)
/-- their cells -/
def gatherK (bx : Tr (Option (List SV))) : Nat → List Nat → List (Nat × List SV) → (List (Nat × List SV) → Prop) → Prop
  | 0, _, tb, k => k tb
  | _ + 1, [], tb, k => k tb
  | n + 1, id :: r, tb, k => match bx.get id none with
    | none => False
    | some cs => gatherK bx n (boxesOf.boxesOfs cs r) ((id, cs) :: tb) k
/-- does a value name a variable? -/
def hasB : SV → Bool
  | .box _ _ => true
  | .arr _ _ _ _ _ => true
  | .plc _ _ _ _ => true
  | .agg l => hasBs l
  | .tup l => hasBs l
  | .fn _ l => hasBs l
  | _ => false
where hasBs : List SV → Bool
  | [] => false
  | x :: xs => match hasB x with | true => true | false => hasBs xs
/-- a value that hangs on no cell -/
def scal : SV → Bool
  | .val _ => true
  | .tt => true
  | .ff => true
  | .junk => true
  | .ifc => true
  | .agg l => scals l
  | .tup l => scals l
  | _ => false
where scals : List SV → Bool
  | [] => true
  | x :: xs => match scal x with | true => scals xs | false => false
/-- what is lent of a row that may be written lies in it -/
def arrC (tb : List (Nat × List SV)) : SV → Prop → Prop
  | .arr b _ o n _, k => match lookT tb b with
    | some cs => match cs with
      | [] => k
      | c :: _ => match c with
        | .many _ _ _ _ l => o + n ≤ l.length ∧ k
        | _ => k
    | none => k
  | .agg l, k => arrCs tb l k
  | .tup l, k => arrCs tb l k
  | .fn _ l, k => arrCs tb l k
  | _, k => k
where arrCs (tb : List (Nat × List SV)) : List SV → Prop → Prop
  | [], k => k
  | x :: xs, k => arrC tb x (arrCs tb xs k)
def arrT (tb : List (Nat × List SV)) : List (Nat × List SV) → Prop → Prop
  | [], k => k
  | (_, cs) :: r, k => arrC.arrCs tb cs (arrT tb r k)
def arrL (tb : List (Nat × List SV)) : SV → List (Nat × Nat) → List (Nat × Nat)
  | .arr b _ o n _, r => match lookT tb b with
    | some cs => match cs with
      | [] => r
      | c :: _ => match c with
        | .many _ _ _ _ l => (o + n, l.length) :: r
        | _ => r
    | none => r
  | .agg l, r => arrLs tb l r
  | .tup l, r => arrLs tb l r
  | .fn _ l, r => arrLs tb l r
  | _, r => r
where arrLs (tb : List (Nat × List SV)) : List SV → List (Nat × Nat) → List (Nat × Nat)
  | [], r => r
  | x :: xs, r => arrL tb x (arrLs tb xs r)
def arrLT (tb : List (Nat × List SV)) : List (Nat × List SV) → List (Nat × Nat) → List (Nat × Nat)
  | [], r => r
  | (_, cs) :: q, r => arrL.arrLs tb cs (arrLT tb q r)
def condsK : List (Nat × Nat) → Prop → Prop
  | [], k => k
  | (a, b) :: r, k => a ≤ b ∧ condsK r k
/-- a call of a function with a contract; variables that it is handed it only reads -/
def enterK (d : Nat) (bx : Tr (Option (List SV))) (c : Ctr) (l : List SV) (k : SV → Prop) : Prop := match hasB.hasBs l with
  | false => ∃ x : c.A, SubL l (c.enc x) ∧ imm.imms (c.enc x) = true ∧ c.dom x ∧ force (c.res x d) k
  | true => gatherK bx 6 (boxesOf.boxesOfs l []) [] fun tb => condsK (arrL.arrLs tb l (arrLT tb tb [])) (∃ x : c.A, SubL (lendW.lendsW (lendB tb 3) (lendR tb) l) (c.enc x) ∧ imm.imms (c.enc x) = true ∧ c.dom x ∧ force (c.res x d) fun v => match c.fresh with
    | true => k v
    | false => match scal v with
      | true => k v
      | false => False)
/-- other names for variables, for rows that may grow -/
def nmW (f ow : Nat → Option Nat) : SV → SV
  | .own T sz cs d l id => match ow id with
    | some id => .own T sz cs d l id
    | none => .row T sz cs d l
  | .box b o => match f b with
    | some b => .box b o
    | none => .junk
  | .arr b z o n c => match f b with
    | some b => .arr b z o n c
    | none => .junk
  | .plc b z i o => match f b with
    | some b => .plc b z i o
    | none => .junk
  | .agg l => .agg (nmsW f ow l)
  | .tup l => .tup (nmsW f ow l)
  | .fn g l => .fn g (nmsW f ow l)
  | x => x
where nmsW (f ow : Nat → Option Nat) : List SV → List SV
  | [] => []
  | x :: xs => nmW f ow x :: nmsW f ow xs
def memN : List Nat → Nat → Bool
  | [], _ => false
  | x :: xs, n => match Nat.beq x n with
    | true => true
    | false => memN xs n
def memP {α : Type _} : List (Nat × α) → Nat → Bool
  | [], _ => false
  | (x, _) :: xs, n => match Nat.beq x n with
    | true => true
    | false => memP xs n
/-- the variables that a call reaches, in the order in which they are met, with their cells -/
def seenK (bx : Tr (Option (List SV))) : Nat → List Nat → List (Nat × List SV) → (List (Nat × List SV) → Prop) → Prop
  | 0, _, σ, k => k σ
  | _ + 1, [], σ, k => k σ
  | n + 1, id :: r, σ, k => match memP σ id with
    | true => seenK bx n r σ k
    | false => match bx.get id none with
      | none => False
      | some cs => seenK bx n (boxesOf.boxesOfs cs r) (σ ++ [(id, cs)]) k
/-- the callee's name of a variable -/
def nameN : List (Nat × List SV) → Nat → Nat → Option Nat
  | [], _, _ => none
  | (x, _) :: r, i, b => match Nat.beq x b with
    | true => some i
    | false => nameN r (i + 1) b
/-- the caller's name; d: of what is made -/
def backN : List (Nat × List SV) → Nat → Nat → Nat → Option Nat
  | [], d, i, b => match Nat.beq b i with
    | true => some d
    | false => none
  | (x, _) :: r, d, i, b => match Nat.beq b i with
    | true => some x
    | false => backN r d (i + 1) b
def subC (x y : List SV) : Prop := isMany x = isMany y ∧ SubL x y
def subLL : List (List SV) → List (List SV) → Prop
  | [], [] => True
  | x :: xs, y :: ys => subC x y ∧ subLL xs ys
  | _, _ => False
def namedL (f : Nat → Option Nat) : List (Nat × List SV) → List (List SV)
  | [] => []
  | (_, cs) :: r => nmW.nmsW f (fun _ => none) cs :: namedL f r
/-- where a number stands among cells, counted on from j -/
def ownAt (n : Nat) : List SV → Nat → Option Nat
  | [], _ => none
  | x :: r, j => match x with
    | .own _ _ _ _ _ id => match Nat.beq id n with
      | true => some j
      | false => ownAt n r (Nat.succ j)
    | _ => ownAt n r (Nat.succ j)
/-- numbers of the rows in handed variables, ahead of a call -/
def ownN : List (Nat × List SV) → Nat → Nat → Option Nat
  | [], _, _ => none
  | (_, cs) :: r, p, n => match ownAt n cs p with
    | some j => some (Nat.mul 100000 (Nat.succ j))
    | none => ownN r (Nat.add p 64) n
/-- .. and behind it -/
def ownsB (bx : Tr (Option (List SV))) (id : Nat) : Nat → Nat → Nat → Nat → Option Nat
  | 0, _, _, _ => some id
  | f + 1, i, p, m => match bx.get i none with
    | none => ownsB bx id f (Nat.succ i) (Nat.add p 64) m
    | some cs => match ownAt m cs p with
      | some j => some (Nat.add id (Nat.mul 100000 (Nat.succ j)))
      | none => ownsB bx id f (Nat.succ i) (Nat.add p 64) m
/-- the variables behind a call -/
def backK (f : Nat → Option Nat) (d : Nat) : List (Nat × List SV) → List (List SV) → Tr (Option (List SV)) → (Tr (Option (List SV)) → Prop) → Prop
  | [], [], bx, k => k bx
  | [], [cs], bx, k => match bx.get d (some []) with
    | none => match Nat.blt d 1000 with
      | true => forceL (nmW.nmsW f some cs) fun cs => bx.putK d (some cs) k
      | false => False
    | some _ => False
  | (id, _) :: r, cs :: ps, bx, k => forceL (nmW.nmsW f some cs) fun cs => bx.putK id (some cs) fun bx => backK f d r ps bx k
  | _, _, _, _ => False
/-- is none of these a variable that only loads reach in an open order? -/
def noneQ (bs : List Nat) : List (Nat × List SV) → Nat → Bool
  | [], d => match memN bs (Nat.add 700000 d) with
    | true => false
    | false => true
  | (b, _) :: r, d => match memN bs (Nat.add 700000 b) with
    | true => false
    | false => noneQ bs r d
/-- a load of such a variable -/
def qLoad (bs : List Nat) : Operand → Bool
  | .tmp q => memN bs (Nat.add 500000 q)
  | _ => false
def isQL (bs : List Nat) : Op → Bool
  | .load _ x => qLoad bs x
  | _ => false
def isQB (bs : List Nat) : SV → Bool
  | .box b _ => memN bs (Nat.add 700000 b)
  | _ => false
/-- a load of a variable that no store of an open order reaches; such a store -/
def sLoad (bs : List Nat) : Operand → Bool
  | .tmp q => memN bs (Nat.add 510000 q)
  | _ => false
def isSL (bs : List Nat) : Op → Bool
  | .load _ x => match qLoad bs x with
    | true => false
    | false => sLoad bs x
  | _ => false
def isSB (bs : List Nat) : SV → Bool
  | .box b _ => memN bs (Nat.add 710000 b)
  | _ => false
def sStore (bs : List Nat) : Operand → Bool
  | .tmp q => memN bs (Nat.add 520000 q)
  | _ => false
def isSS (bs : List Nat) : Op → Bool
  | .store _ x _ => sStore bs x
  | _ => false
def offSB (bs : List Nat) : SV → Bool
  | .box b _ => match memN bs (Nat.add 710000 b) with
    | true => false
    | false => true
  | _ => false
def enterB (bs : List Nat) (d : Nat) (bx : Tr (Option (List SV))) (c : CtrB) (l : List SV) (k : SV → Tr (Option (List SV)) → Prop) : Prop :=
  seenK bx 8 (boxesOf.boxesOfs l []) [] fun σ => noneQ bs σ d = true ∧ ∃ x : c.A, SubL (nmW.nmsW (nameN σ 1000) (fun _ => none) l) (c.enc x) ∧ subLL (namedL (nameN σ 1000) σ) (c.pre x) ∧ c.dom x ∧
    backK (backN σ d 1000) d σ (c.post x d) bx fun bx => force (nmW (backN σ d 1000) some (c.res x d)) fun v => k v bx
def isClear : Callee → Bool
  | .builtin b => match b with
    | .clear => true
    | _ => false
  | _ => false
/-- a call of a function that changes variables -/
def bcall (bs : List Nat) : Callee → Option Nat
  | .value (.func g) => match memN bs g with
    | true => some g
    | false => none
  | _ => none
def callK (E : Env) (d : Nat) (bx : Tr (Option (List SV))) (c : Callee) (ρ : Operand → SV) (ts : List Nat) (args : List SV) (k : SV → Prop) : Prop := match c with
  | .builtin b => match b with
    | .len => match args with | [x] => lenTK E ts x k | _ => False
    | .max => match args with
      | [x, y] => match x with
        | .val v => match v with
          | .int kk a => match y with
            | .val u => match u with
              | .int kk' b => match ikEq kk kk' with | true => k (.val (.int kk (if a < b then b else a))) | false => False
              | _ => False
            | _ => False
          | _ => False
        | _ => False
      | _ => False
    | .min => match args with
      | [x, y] => match x with
        | .val v => match v with
          | .int kk a => match y with
            | .val u => match u with
              | .int kk' b => match ikEq kk kk' with | true => k (.val (.int kk (if b < a then b else a))) | false => False
              | _ => False
            | _ => False
          | _ => False
        | _ => False
      | _ => False
    | _ => False
  | .value f => match ρ f with
    | .fn g caps => match E.ctr g with
      | some c => forceL (args ++ caps) fun l => enterK d bx c l k
      | none => False
    | _ => False
  | _ => False

/-- nothing in a value may grow -/
def ownFree : SV → Bool
  | .own _ _ _ _ _ _ => false
  | .agg l => ownFrees l
  | .tup l => ownFrees l
  | .fn _ l => ownFrees l
  | _ => true
where ownFrees : List SV → Bool
  | [] => true
  | x :: xs => match ownFree x with | true => ownFrees xs | false => false
def loadK (t : TI) (p : SV) (bx : Tr (Option (List SV))) (k : SV → Prop) : Prop := match p with
  | .box b o => match bx.get b none with
    | some cs => match plain cs with
      | true => match Nat.ble (o + t.size) cs.length with
        | true => wholeK t.agg (takeN t.size (dropN o cs)) k
        | false => False
      | false => False
    | none => False
  | .plc b z i o => match bx.get b none with
    | some cs => manyK cs fun T sz c d l => match Nat.beq z sz with
      | true => match Nat.ble (o + t.size) sz with
        | true => match ownFree.ownFrees (takeN t.size (dropN o (c (l.getD i.toNat d)))) with
          | true => (0 ≤ i ∧ i < (l.length : Int)) ∧ wholeK t.agg (takeN t.size (dropN o (c (l.getD i.toNat d)))) k
          | false => False
        | false => False
      | false => False
    | none => False
  | .elt _ z cs d l i o => match Nat.ble (o + t.size) z with
    | false => False
    | true => match ownFree.ownFrees (takeN t.size (dropN o (cs (l.getD i.toNat d)))) with
      | true => wholeK t.agg (takeN t.size (dropN o (cs (l.getD i.toNat d)))) k
      | false => False
  | _ => False
def storeK (t : TI) (p : SV) (v : SV) (bx : Tr (Option (List SV))) (k : Tr (Option (List SV)) → Prop) : Prop := match p with
  | .box b o => match bx.get b none with
    | some cs => match plain cs with
      | true => cellsK v fun vs => match allOk vs with
        | true => match Nat.beq vs.length t.size with
          | true => match Nat.ble (o + vs.length) cs.length with
            | true => forceL (over o vs cs) fun cs => bx.putK b (some cs) k
            | false => False
          | false => False
        | false => False
      | false => False
    | none => False
  | .plc b z i o => match bx.get b none with
    | some cs => manyK cs fun T sz c d l => match Nat.beq z sz with
      | true => cellsK v fun vs => match allOk vs with
        | true => match Nat.beq vs.length t.size with
          | true => match Nat.ble (o + vs.length) sz with
            | true => (0 ≤ i ∧ i < (l.length : Int)) ∧ ∃ x : T, SubL (over o vs (c (l.getD i.toNat d))) (c x) ∧ bx.putK b (some [.many T sz c d (l.set i.toNat x)]) k
            | false => False
          | false => False
        | false => False
      | false => False
    | none => False
  | _ => False

/-- the cells of a row's entries, one behind the other -/
def flat {T : Type} (cs : T → List SV) : List T → List SV
  | [] => []
  | x :: xs => cs x ++ flat cs xs
/-- parts laid over cells: where each goes, how many cells it has -/
def fillK (ρ : Operand → SV) (place : Nat → (Nat → Nat → Prop) → Prop) : List (Nat × Operand) → List SV → (List SV → Prop) → Prop
  | [], cs, k => k cs
  | (i, x) :: r, cs, k => place i fun o n => cellsK (ρ x) fun vs => match Nat.beq vs.length n with
    | true => match Nat.ble (o + n) cs.length with
      | true => forceL (over o vs cs) fun cs => fillK ρ place r cs k
      | false => False
    | false => False
/-- so many times the same cells -/
def timesL {α : Type _} (l : List α) : Nat → List α
  | 0 => []
  | n + 1 => l ++ timesL l n
/-- a bound of a part of a row -/
def lowK (x : Option SV) (k : Int → Prop) : Prop := match x with
  | none => k 0
  | some v => match v with
    | .val v => match v with | .int _ n => k n | _ => False
    | _ => False
def cutRow {T : Type} (l : List T) (hi : Option SV) (lo : Int) (k : List T → Prop) : Prop := match hi with
  | none => (0 ≤ lo ∧ lo ≤ (l.length : Int)) ∧ k (l.drop lo.toNat)
  | some v => match v with
    | .val v => match v with
      | .int _ h => (0 ≤ lo ∧ lo ≤ h ∧ h ≤ (l.length : Int)) ∧ k ((l.take h.toNat).drop lo.toNat)
      | _ => False
    | _ => False
def cutStr (s : ByteArray) (hi : Option SV) (lo : Int) (k : ByteArray → Prop) : Prop := match hi with
  | none => (0 ≤ lo ∧ lo ≤ (s.size : Int)) ∧ k (s.extract lo.toNat s.size)
  | some v => match v with
    | .val v => match v with
      | .int _ h => (0 ≤ lo ∧ lo ≤ h ∧ h ≤ (s.size : Int)) ∧ k (s.extract lo.toNat h.toNat)
      | _ => False
    | _ => False
/-- a part of a variable that is a row -/
def cutA (n : Nat) (hi : Option SV) (lo : Int) (k : Nat → Nat → Prop) : Prop := match hi with
  | none => (0 ≤ lo ∧ lo ≤ (n : Int)) ∧ k lo.toNat (n - lo.toNat)
  | some v => match v with
    | .val v => match v with
      | .int _ h => (0 ≤ lo ∧ lo ≤ h ∧ h ≤ (n : Int)) ∧ k lo.toNat (h.toNat - lo.toNat)
      | _ => False
    | _ => False
def cutK (E : Env) (t : TI) (x : SV) (lo hi : Option SV) (k : SV → Prop) : Prop := match t.slice with
  | true => tiK E.ty t.elem fun u => match x with
    | .row T z cs d l => match Nat.beq z u.size with
      | true => lowK lo fun lo => cutRow l hi lo fun l => k (.row T z cs d l)
      | false => False
    | .own T z cs d l _ => match Nat.beq z u.size with
      | true => lowK lo fun lo => cutRow l hi lo fun l => k (.row T z cs d l)
      | false => False
    | .arr b z o n _ => match Nat.beq z u.size with
      | true => lowK lo fun lo => cutA n hi lo fun q m => k (.arr b z (o + q) m none)
      | false => False
    | _ => False
  | false => match t.str with
    | true => match x with
      | .val v => match v with | .string s => lowK lo fun lo => cutStr s hi lo fun s => k (.val (.string s)) | _ => False
      | _ => False
    | false => False

def buildK (E : Env) (ρ : Operand → SV) (t : Nat) (parts : List (Nat × Operand)) (k : SV → Prop) : Prop := tiK E.ty t fun t => match t.flds with
  | [] => False
  | _ :: _ => match Nat.ble 1 t.zero.length with
    | true => fillK ρ (fun i f => fldK t.flds i fun q u => tiK E.ty u fun u => f q u.size) parts (t.zero.map SV.val) fun cs => k (.agg cs)
    | false => False
def isNil {α : Type _} : List α → Bool
  | [] => true
  | _ :: _ => false
def buildSliceK (E : Env) (d : Nat) (ρ : Operand → SV) (t len : Nat) (parts : List (Nat × Operand)) (k : SV → Prop) : Prop := tiK E.ty t fun t => match t.slice with
  | true => match Nat.beq len 0 with
    | true => tiK E.ty t.elem fun _ => match isNil parts with
      | true => k .e0
      | false => False
    | false => tiK E.ty t.elem fun u => match Nat.beq u.zero.length u.size with
      | true => match Nat.ble 1 (len * u.size) with
        | true => match Nat.ble (len * u.size) 16777216 with
          | true => fillK ρ (fun i f => f (i * u.size) u.size) parts (timesL (u.zero.map SV.val) len) fun cells =>
            ∃ (T : Type) (cs : T → List SV) (e : T) (l : List T), (l.length = len ∧ (∀ x, (cs x).length = u.size)) ∧ SubL cells (flat cs l) ∧ imm.imms (flat cs l) = true ∧ k (.own T u.size cs e l d)
          | false => False
        | false => False
      | false => False
  | false => False
/-- is what a temporary gets a row that may be written? -/
def vecD (bs : List Nat) (d : Nat) : Bool := memN bs (Nat.add 1000000 d)
def hasVec : List Nat → Bool
  | [] => false
  | x :: xs => match Nat.ble 1000000 x with
    | true => true
    | false => hasVec xs
/-- a new row that may be written -/
def newVecK (d : Nat) (bx : Tr (Option (List SV))) (sz n : Nat) (ok : (T : Type) → (T → List SV) → List T → Prop) (k : SV → Tr (Option (List SV)) → Prop) : Prop := match Nat.blt d 1000 with
  | true => match bx.get d (some []) with
    | none => ∃ (T : Type) (cs : T → List SV) (e : T) (l : List T), (l.length = n ∧ (∀ x, (cs x).length = sz ∧ imm.imms (cs x) = true ∧ allOk (cs x) = true)) ∧ ok T cs l ∧ bx.putK d (some [.many T sz cs e l]) fun bx => k (.arr d sz 0 n (some n)) bx
    | some _ => False
  | false => False
def buildVecK (E : Env) (d : Nat) (ρ : Operand → SV) (t len : Nat) (parts : List (Nat × Operand)) (bx : Tr (Option (List SV))) (k : SV → Tr (Option (List SV)) → Prop) : Prop := tiK E.ty t fun t => match t.slice with
  | true => tiK E.ty t.elem fun u => match Nat.beq u.zero.length u.size with
    | true => match Nat.ble 1 (len * u.size) with
      | true => match Nat.ble (len * u.size) 16777216 with
        | true => fillK ρ (fun i f => f (i * u.size) u.size) parts (timesL (u.zero.map SV.val) len) fun cells => newVecK d bx u.size len (fun T cs l => SubL cells (flat cs l)) k
        | false => False
      | false => False
    | false => False
  | false => False
def makeVecK (E : Env) (d : Nat) (t : Nat) (len cap : SV) (bx : Tr (Option (List SV))) (k : SV → Tr (Option (List SV)) → Prop) : Prop := tiK E.ty t fun t => match t.slice with
  | true => tiK E.ty t.elem fun u => match Nat.beq u.zero.length u.size with
    | true => match Nat.ble 1 u.size with
      | true => match len with
        | .val v => match v with
          | .int _ n => match cap with
            | .val v => match v with
              | .int _ c => (0 ≤ n ∧ n = c ∧ n * (u.bytes : Int) ≤ 140737488355328 ∧ n < 4611686018427387904) ∧ newVecK d bx u.size n.toNat (fun T cs l => ∃ z, SubL (u.zero.map SV.val) (cs z) ∧ l = List.replicate n.toNat z) k
              | _ => False
            | _ => False
          | _ => False
        | _ => False
      | false => False
    | false => False
  | false => False
/-- the entries of a row that may be written are made zero -/
def clearK (E : Env) (ts : List Nat) (x : SV) (bx : Tr (Option (List SV))) (k : Tr (Option (List SV)) → Prop) : Prop := match ts with
  | [t] => tiK E.ty t fun t => match t.slice with
    | true => tiK E.ty t.elem fun u => match Nat.beq u.zero.length u.size with
      | true => match x with
        | .arr b z o n _ => match Nat.beq z u.size with
          | true => match bx.get b none with
            | some cs => manyK cs fun T sz c d l => match Nat.beq z sz with
              | true => (o + n ≤ l.length) ∧ ∃ x : T, SubL (u.zero.map SV.val) (c x) ∧ bx.putK b (some [.many T sz c d (l.take o ++ (List.replicate n x ++ l.drop (o + n)))]) k
              | false => False
            | none => False
          | false => False
        | _ => False
      | false => False
    | false => False
  | _ => False
def isZ : Option SV → Bool
  | none => true
  | some v => match v with
    | .val v => match v with
      | .int _ n => match n with
        | .ofNat n => Nat.beq n 0
        | _ => false
      | _ => false
    | _ => false
def anyRow : SV → Bool
  | .row _ _ _ _ _ => true
  | .own _ _ _ _ _ _ => true
  | .arr _ _ _ _ _ => true
  | .e0 => true
  | .val v => match v with
    | .slice _ _ _ => true
    | _ => false
  | _ => false
def sliceK (E : Env) (ρ : Operand → SV) (t : Nat) (x : Operand) (lo hi mx : Option Operand) (k : SV → Prop) : Prop := match mx with
  | none => tiK E.ty t fun t => cutK E t (ρ x) (lo.map ρ) (hi.map ρ) k
  | some m => tiK E.ty t fun t => match t.slice with
    | true => tiK E.ty t.elem fun _ => match isZ (some (ρ m)) with
      | true => match hi with
        | some h => match isZ (some (ρ h)) with
          | true => match isZ (lo.map ρ) with
            | true => match anyRow (ρ x) with
              | true => k .e0
              | false => False
            | false => False
          | false => False
        | none => False
      | false => False
    | false => False
def makeFuncK (ρ : Operand → SV) (f : Fn) (fs cs : List Operand) (k : SV → Prop) : Prop := match f with
  | .func g => match fs with
    | [] => forceL (cs.map ρ) fun l => k (.fn g l)
    | _ :: _ => False
  | _ => False

def convK (E : Env) (s0 t0 : Nat) (x : SV) (k : SV → Prop) : Prop := tiK E.ty s0 fun s => tiK E.ty t0 fun t => match t.int with
  | some kk => match x with
    | .val v => match v with | .int _ n => k (.val (.int kk (kk.wrap n))) | _ => False
    | _ => False
  | none => match t.str with
    | true => match s.slice with
      | true => tiK E.ty s.elem fun u => match isU8 u.int with
        | true => ∃ l : List UInt8, Sub x (byteRow l) ∧ k (.val (.string ⟨l.toArray⟩))
        | false => False
      | false => match s.str with
        | true => match x with
          | .val v => match v with | .string b => k (.val (.string b)) | _ => False
          | _ => False
        | false => False
    | false => match t.slice with
      | true => tiK E.ty t.elem fun u => match isU8 u.int with
        | true => match x with
          | .val v => match v with | .string b => k (.row UInt8 1 byteC 0 b.data.toList) | _ => False
          | .arr b z o n c => match Nat.beq s0 t0 with
            | true => match Nat.ble 1 n with
              | true => k (.arr b z o n c)
              | false => False
            | false => False
          | _ => False
        | false => False
      | false => False
def byteAt (s : ByteArray) (n : Nat) : Int := ((s.data.getD n 0).toNat : Int)
def indexK (E : Env) (t : Nat) (x i : SV) (k : SV → Prop) : Prop := tiK E.ty t fun t => match t.str with
  | true => match x with
    | .val v => match v with
      | .string s => match i with
        | .val v => match v with
          | .int _ n => (0 ≤ n ∧ n < (s.size : Int)) ∧ k (.val (.int .u8 (byteAt s n.toNat)))
          | _ => False
        | _ => False
      | _ => False
    | _ => False
  | false => False
/-- One operation: its value, and the boxes behind it. -/
def stepB (E : Env) (d : Nat) (op : Op) (ρ : Operand → SV) (bx : Tr (Option (List SV))) (k : SV → Tr (Option (List SV)) → Prop) : Prop := match op with
  | .move x => force (ρ x) fun v => k v bx
  | .assign x => force (ρ x) fun v => k v bx
  | .pick c a b => match ρ c with
    | .tt => force (ρ a) fun v => k v bx
    | .ff => force (ρ b) fun v => k v bx
    | _ => False
  | .alloc t => match Nat.blt d 1000 with
    | true => match bx.get d (some []) with
      | none => tiK E.ty t fun t => match t.zero with
        | [] => False
        | z :: zs => forceL ((z :: zs).map SV.val) fun cs => bx.putK d (some cs) fun bx => k (.box d 0) bx
      | some _ => False
    | false => False
  | .box _ x => match Nat.blt d 1000 with
    | true => match bx.get d (some []) with
      | none => cellsK (ρ x) fun cs => match plain cs with
        | true => bx.putK d (some cs) fun bx => k (.box d 0) bx
        | false => False
      | some _ => False
    | false => False
  | .load t x => match qLoad E.bs x with
    | true => match isQB E.bs (ρ x) with
      | true => tiK E.ty t fun t => loadK t (ρ x) bx fun v => k v bx
      | false => False
    | false => match sLoad E.bs x with
      | true => match isSB E.bs (ρ x) with
        | true => tiK E.ty t fun t => loadK t (ρ x) bx fun v => k v bx
        | false => False
      | false => tiK E.ty t fun t => loadK t (ρ x) bx fun v => k v bx
  | .nilCheck x => match ρ x with
    | .box b o => k (.box b o) bx
    | .elt T z cs d l i o => k (.elt T z cs d l i o) bx
    | .plc b z i o => k (.plc b z i o) bx
    | _ => False
  | .store t x y => match sStore E.bs x with
    | true => match offSB E.bs (ρ x) with
      | true => tiK E.ty t fun t => storeK t (ρ x) (ρ y) bx fun bx => k (.val undef) bx
      | false => False
    | false => tiK E.ty t fun t => storeK t (ρ x) (ρ y) bx fun bx => k (.val undef) bx
  | .fieldAddr t x f => match ρ x with
    | .box b o => tiK E.ty t fun t => fldK t.flds f fun q _ => k (.box b (o + q)) bx
    | .elt T z cs d l i o => tiK E.ty t fun t => fldK t.flds f fun q _ => k (.elt T z cs d l i (o + q)) bx
    | .plc b z i o => tiK E.ty t fun t => fldK t.flds f fun q _ => k (.plc b z i (o + q)) bx
    | _ => False
  | .field t x f => match ρ x with
    | .agg l => tiK E.ty t fun t => fldK t.flds f fun q u => tiK E.ty u fun u => match Nat.ble (q + u.size) l.length with
      | true => wholeK u.agg (takeN u.size (dropN q l)) fun v => k v bx
      | false => False
    | _ => False
  | .indexAddr t x i => match ρ i with
    | .val v => match v with
      | .int _ i => match ρ x with
        | .row T z cs d l => tiK E.ty t fun t => tiK E.ty t.elem fun u => match Nat.beq z u.size with
          | true => match t.slice with
            | true => (0 ≤ i ∧ i < (l.length : Int)) ∧ k (.elt T z cs d l i 0) bx
            | false => False
          | false => False
        | .own T z cs d l _ => tiK E.ty t fun t => tiK E.ty t.elem fun u => match Nat.beq z u.size with
          | true => match t.slice with
            | true => (0 ≤ i ∧ i < (l.length : Int)) ∧ k (.elt T z cs d l i 0) bx
            | false => False
          | false => False
        | .arr b z o n _ => tiK E.ty t fun t => tiK E.ty t.elem fun u => match Nat.beq z u.size with
          | true => match t.slice with
            | true => (0 ≤ i ∧ i < (n : Int)) ∧ k (.plc b z ((o : Int) + i) 0) bx
            | false => False
          | false => False
        | _ => False
      | _ => False
    | _ => False
  | .binOp op t x y _ => binK E t op (ρ x) (ρ y) (isConst x || isConst y) fun v => k v bx
  | .unOp op _ x => unK op (ρ x) fun v => k v bx
  | .extract x i => match ρ x with
    | .tup l => match Nat.blt i l.length with
      | true => force (at' l i .junk) fun v => k v bx
      | false => False
    | _ => False
  | .call c => match isClear c.callee with
    | true => match c.args.toList.map (ρ) with
      | [x] => force x fun x => clearK E c.argTypes.toList x bx fun bx => k (.tup []) bx
      | _ => False
    | false => match bcall E.bs c.callee with
      | none => callK E d bx c.callee ρ (c.argTypes.toList) (c.args.toList.map (ρ)) fun v => k v bx
      | some g => match E.ctrB g with
        | some cb => forceL (c.args.toList.map ρ) fun l => enterB E.bs d bx cb l k
        | none => False
  | .build t parts => buildK E ρ t parts.toList fun v => k v bx
  | .buildSlice t len parts => match vecD E.bs d with
    | true => buildVecK E d ρ t len parts.toList bx k
    | false => buildSliceK E d ρ t len parts.toList fun v => k v bx
  | .makeSlice t len cap => makeVecK E d t (ρ len) (ρ cap) bx k
  | .slice t x lo hi mx => sliceK E ρ t x lo hi mx fun v => k v bx
  | .makeFunc f fs cs => makeFuncK ρ f fs.toList cs.toList fun v => k v bx
  | .convert s t x => convK E s t (ρ x) fun v => k v bx
  | .index t x i => indexK E t (ρ x) (ρ i) fun v => k v bx
  | _ => False

/-- a value when the rows i and j may grow no more -/
def dgr (i j : Nat) : SV → SV
  | .own T sz cs d l id => match Nat.beq id i with
    | true => .row T sz cs d l
    | false => match Nat.beq id j with
      | true => .row T sz cs d l
      | false => .own T sz cs d l id
  | .agg l => .agg (dgrs i j l)
  | .tup l => .tup (dgrs i j l)
  | .fn g l => .fn g (dgrs i j l)
  | x => x
where dgrs (i j : Nat) : List SV → List SV
  | [] => []
  | x :: xs => dgr i j x :: dgrs i j xs
/-- the same, told at once -/
def dgrK (i j : Nat) : SV → (SV → Prop) → Prop
  | .own T sz cs d l id, k => match Nat.beq id i with
    | true => k (.row T sz cs d l)
    | false => match Nat.beq id j with
      | true => k (.row T sz cs d l)
      | false => k (.own T sz cs d l id)
  | .agg l, k => dgrsK i j l fun l => k (.agg l)
  | .tup l, k => dgrsK i j l fun l => k (.tup l)
  | .fn g l, k => dgrsK i j l fun l => k (.fn g l)
  | x, k => k x
where dgrsK (i j : Nat) : List SV → (List SV → Prop) → Prop
  | [], k => k []
  | x :: xs, k => dgrK i j x fun x => dgrsK i j xs fun xs => k (x :: xs)
def dgrT (i j : Nat) : Tr SV → Tr SV
  | .nil => .nil
  | .node v l r => .node (dgr i j v) (dgrT i j l) (dgrT i j r)
def dgrTK (i j : Nat) : Tr SV → (Tr SV → Prop) → Prop
  | .nil, k => k .nil
  | .node v l r, k => dgrK i j v fun v => dgrTK i j l fun l => dgrTK i j r fun r => k (.node v l r)
def dgrB (i j : Nat) : Tr (Option (List SV)) → Tr (Option (List SV))
  | .nil => .nil
  | .node v l r => .node (v.map (dgr.dgrs i j)) (dgrB i j l) (dgrB i j r)
def dgrBK (i j : Nat) : Tr (Option (List SV)) → (Tr (Option (List SV)) → Prop) → Prop
  | .nil, k => k .nil
  | .node v l r, k => match v with
    | none => dgrBK i j l fun l => dgrBK i j r fun r => k (.node none l r)
    | some cs => dgrK.dgrsK i j cs fun cs => dgrBK i j l fun l => dgrBK i j r fun r => k (.node (some cs) l r)
/-- is a type one of texts? -/
def strT : List (Nat × TI) → Nat → Bool
  | [], _ => false
  | (k, v) :: r, n => match Nat.beq k n with | true => v.str | false => strT r n
/-- what is appended: a row, or a text's bytes -/
def rowD (E : Env) (t : Nat × Nat) (y : SV) : SV := match Nat.beq t.1 t.2 with
  | true => y
  | false => match strT E.ty t.2 with
    | true => match y with
      | .val v => match v with
        | .string s => .row UInt8 1 byteC 0 s.data.toList
        | _ => .junk
      | _ => .junk
    | false => .junk
/-- A row grows: its row of places must be its own; what else named these places says less from now on. -/
def appK (E : Env) (d : Nat) (tu : Nat × Nat) (x y : SV) (s : ASt) (k : ASt → Prop) : Prop := force (rowD E tu y) fun y => tiK E.ty tu.1 fun t => match t.slice with
  | true => tiK E.ty t.elem fun u => match Nat.beq u.zero.length u.size with
    | true => match Nat.ble 1 u.size with
      | true => match Nat.ble 1 u.bytes with
        | true => ∃ (T : Type) (cs : T → List SV) (e : T) (l ys : List T) (id : Nat), (Sub x (.own T u.size cs e l id) ∧ Sub y (.row T u.size cs e ys)) ∧ (∀ x, allOk (cs x) = true) ∧
            (l.length + ys.length) * u.bytes ≤ 140737488355328 ∧ (dgrT id d s.fr).putK d (.own T u.size cs e (l ++ ys) d) fun fr => k ⟨fr, dgrB id d s.bx⟩
        | false => False
      | false => False
    | false => False
  | false => False

/-- an append: what grows, by what, the type -/
def isApp : Op → Option (Operand × Operand × Nat × Nat)
  | .call c => match c.callee with
    | .builtin b => match b with
      | .append => match c.args.toList with
        | [x, y] => match c.argTypes.toList with
          | [t, u] => some (x, y, t, u)
          | _ => none
        | _ => none
      | _ => none
    | _ => none
  | _ => none

/-- a row that may be written, out of nothing and a row's entries -/
def appV (E : Env) (d : Nat) (tu : Nat × Nat) (x y : SV) (s : ASt) (k : ASt → Prop) : Prop := match Nat.beq tu.1 tu.2 with
 | false => False
 | true => tiK E.ty tu.1 fun t => match t.slice with
  | true => tiK E.ty t.elem fun u => match Nat.beq u.zero.length u.size with
    | true => match Nat.ble 1 u.size with
      | true => match Nat.ble 1 u.bytes with
        | true => match Nat.blt d 1000 with
          | true => match s.bx.get d (some []) with
            | none => ∃ (T : Type) (cs : T → List SV) (e : T) (ys : List T), (Sub x .e0 ∧ Sub y (.row T u.size cs e ys)) ∧ (∀ x, (cs x).length = u.size ∧ imm.imms (cs x) = true ∧ allOk (cs x) = true) ∧
                ys.length * u.bytes ≤ 140737488355328 ∧ s.bx.putK d (some [.many T u.size cs e ys]) fun bx => s.fr.putK d (.arr d u.size 0 ys.length none) fun fr => k ⟨fr, bx⟩
            | some _ => False
          | false => False
        | false => False
      | false => False
    | false => False
  | false => False
/-- a row grows that has no room behind it -/
def appX (E : Env) (d : Nat) (tu : Nat × Nat) (b z o n : Nat) (c : Option Nat) (y : SV) (s : ASt) (k : ASt → Prop) : Prop := match Nat.beq tu.1 tu.2 with
 | false => False
 | true => tiK E.ty tu.1 fun t => match t.slice with
  | true => tiK E.ty t.elem fun u => match Nat.beq u.zero.length u.size with
    | true => match Nat.ble 1 u.size with
      | true => match Nat.ble 1 u.bytes with
        | true => match Nat.beq z u.size with
          | true => match s.bx.get b none with
            | some cs => manyK cs fun T sz cs e l => match Nat.beq z sz with
              | true => ∃ (ys : List T), (c = some n ∧ o + n ≤ l.length ∧ 0 < ys.length ∧ Sub y (.row T z cs e ys)) ∧ (n + ys.length) * u.bytes ≤ 140737488355328 ∧
                  (dgrT d d s.fr).putK d (.own T z cs e ((l.drop o).take n ++ ys) d) fun fr => k ⟨fr, dgrB d d s.bx⟩
              | false => False
            | none => False
          | false => False
        | false => False
      | false => False
    | false => False
  | false => False

def stepK (E : Env) (d : Nat) (op : Op) (s : ASt) (k : SV → ASt → Prop) : Prop := stepB E d op (ev s) s.bx fun v bx => k v ⟨s.fr, bx⟩

def dOf : Option Nat → Nat
  | some d => d
  | none => 0
/-- a call behind which the variables that it is handed are variables no more -/
def isFrz (bs : List Nat) (o : Oper) : Option Call := match o.dst with
  | some d => match vecD bs d with
    | true => match o.op with
      | .call c => match c.callee with
        | .value _ => some c
        | _ => none
      | _ => none
    | false => none
  | none => none
/-- values without some variables -/
def kill (tb : List Nat) : SV → SV
  | .box b o => match memN tb b with
    | true => .junk
    | false => .box b o
  | .arr b z o n c => match memN tb b with
    | true => .junk
    | false => .arr b z o n c
  | .plc b z i o => match memN tb b with
    | true => .junk
    | false => .plc b z i o
  | .agg l => .agg (kills tb l)
  | .tup l => .tup (kills tb l)
  | .fn g l => .fn g (kills tb l)
  | x => x
where kills (tb : List Nat) : List SV → List SV
  | [] => []
  | x :: xs => kill tb x :: kills tb xs
def killT (tb : List Nat) : Tr SV → Tr SV
  | .nil => .nil
  | .node v l r => .node (kill tb v) (killT tb l) (killT tb r)
def killB (tb : List Nat) : Tr (Option (List SV)) → Tr (Option (List SV))
  | .nil => .nil
  | .node v l r => .node (v.map (kill.kills tb)) (killB tb l) (killB tb r)
def dropB : List Nat → Tr (Option (List SV)) → Tr (Option (List SV))
  | [], bx => bx
  | b :: r, bx => dropB r (bx.put b none)
def keysT : List (Nat × List SV) → List Nat
  | [] => []
  | (b, _) :: r => b :: keysT r
def allLt : List Nat → Bool
  | [] => true
  | b :: r => match Nat.blt b 1000 with
    | true => allLt r
    | false => false
/-- the same, told at once -/
def killTK (tb : List Nat) : Tr SV → (Tr SV → Prop) → Prop
  | .nil, k => k .nil
  | .node v l r, k => force (kill tb v) fun v => killTK tb l fun l => killTK tb r fun r => k (.node v l r)
def killBK (tb : List Nat) : Tr (Option (List SV)) → (Tr (Option (List SV)) → Prop) → Prop
  | .nil, k => k .nil
  | .node v l r, k => match v with
    | none => killBK tb l fun l => killBK tb r fun r => k (.node none l r)
    | some cs => forceL (kill.kills tb cs) fun cs => killBK tb l fun l => killBK tb r fun r => k (.node (some cs) l r)
/-- a value whose rows may not grow any more -/
def bare (x : SV) : SV := nmW some (fun _ => none) x
def bareT : Tr SV → Tr SV
  | .nil => .nil
  | .node v l r => .node (bare v) (bareT l) (bareT r)
def bareB : Tr (Option (List SV)) → Tr (Option (List SV))
  | .nil => .nil
  | .node v l r => .node (v.map (nmW.nmsW some (fun _ => none))) (bareB l) (bareB r)
def bareTK : Tr SV → (Tr SV → Prop) → Prop
  | .nil, k => k .nil
  | .node v l r, k => force (bare v) fun v => bareTK l fun l => bareTK r fun r => k (.node v l r)
def bareBK : Tr (Option (List SV)) → (Tr (Option (List SV)) → Prop) → Prop
  | .nil, k => k .nil
  | .node v l r, k => match v with
    | none => bareBK l fun l => bareBK r fun r => k (.node none l r)
    | some cs => forceL (nmW.nmsW some (fun _ => none) cs) fun cs => bareBK l fun l => bareBK r fun r => k (.node (some cs) l r)
def namedW (f ow : Nat → Option Nat) : List (Nat × List SV) → List (List SV)
  | [] => []
  | (_, cs) :: r => nmW.nmsW f ow cs :: namedW f ow r
/-- a call of a function that changes variables, with rows of their own in them -/
def ownK (d : Nat) (c : CtrB) (l : List SV) (s : ASt) (k : ASt → Prop) : Prop :=
  seenK s.bx 8 (boxesOf.boxesOfs l []) [] fun σ => ∃ x : c.A, SubL (nmW.nmsW (nameN σ 1000) (ownN σ 0) l) (c.enc x) ∧ subLL (namedW (nameN σ 1000) (ownN σ 0) σ) (c.pre x) ∧ c.dom x ∧
    bareBK s.bx fun bx => backK (backN σ d 1000) d σ (c.post x d) bx fun bx => force (nmW (backN σ d 1000) some (c.res x d)) fun v => bareTK s.fr fun fr => fr.putK d v fun fr => k ⟨fr, bx⟩
def frzK (E : Env) (d : Nat) (c : Call) (s : ASt) (k : ASt → Prop) : Prop := match c.callee with
  | .value f => match ev s f with
    | .fn g caps => match E.ctr g with
      | some ct => forceL (c.args.toList.map (ev s) ++ caps) fun l => gatherK s.bx 6 (boxesOf.boxesOfs l []) [] fun tb => condsK (arrL.arrLs tb l (arrLT tb tb [])) (∃ x : ct.A, SubL (lendW.lendsW (lendB tb 3) (lendR tb) l) (ct.enc x) ∧ imm.imms (ct.enc x) = true ∧ ct.dom x ∧
          force (ct.res x d) fun v => match allLt (keysT tb) with
            | true => killTK (keysT tb) s.fr fun fr => fr.putK d v fun fr => killBK (keysT tb) (dropB (keysT tb) s.bx) fun bx => k ⟨fr, bx⟩
            | false => False)
      | none => match caps with
        | [] => match E.ctrB g with
          | some cb => forceL (c.args.toList.map (ev s)) fun l => ownK d cb l s k
          | none => False
        | _ => False
    | _ => False
  | _ => False
def gOf (all : List Oper) (j : Nat) : Option Nat := match at' (all.map some) j none with
  | some o => o.dst
  | none => none

/-- One operation, and what its temporary holds then. -/
def opK (E : Env) (o : Oper) (s : ASt) (k : ASt → Prop) : Prop := match isApp o.op with
  | none => match isFrz E.bs o with
    | none => stepK E (dOf o.dst) o.op s fun v s => setK o.dst v s.fr fun fr => k ⟨fr, s.bx⟩
    | some c => match o.dst with
      | some d => frzK E d c s k
      | none => False
  | some (x, y, t) => match o.dst with
    | some d => force (ev s x) fun x => force (ev s y) fun y => match vecD E.bs d with
      | true => appV E d t x y s k
      | false => match x with
        | .arr b z o n c => match hasVec E.bs with
          | true => appX E d t b z o n c y s k
          | false => False
        | x => appK E d t x y s k
    | none => False

/-- the same state, told at once -/
def norm (s : ASt) (k : ASt → Prop) : Prop := match s with
  | ⟨fr, bx⟩ => match fr with
    | .nil => match bx with
      | .nil => k ⟨.nil, .nil⟩
      | .node w a b => k ⟨.nil, .node w a b⟩
    | .node v l r => match bx with
      | .nil => k ⟨.node v l r, .nil⟩
      | .node w a b => k ⟨.node v l r, .node w a b⟩
theorem norm_eq (s : ASt) (k : ASt → Prop) : norm s k = k s := by
  obtain ⟨fr, bx⟩ := s
  cases fr <;> cases bx <;> rfl
/-- The operations of a region, in the text's order. -/
def axOps (E : Env) (all : List Oper) : List Oper → ASt → (ASt → Prop) → Prop
  | [], s, K => norm s K
  | o :: os, s, K => norm s fun s => match o.guard with
    | none => opK E o s fun s => axOps E all os s K
    | some (j, b) => match gOf all j with
      | none => False
      | some g => match s.fr.get g .junk with
        | .tt => match b with
          | true => opK E o s fun s => axOps E all os s K
          | false => setK o.dst (.val undef) s.fr fun fr => axOps E all os ⟨fr, s.bx⟩ K
        | .ff => match b with
          | false => opK E o s fun s => axOps E all os s K
          | true => setK o.dst (.val undef) s.fr fun fr => axOps E all os ⟨fr, s.bx⟩ K
        | .val v => match v with
          | .bool c =>
            (c = true → s.fr.putK g .tt fun gr => match b with
              | true => opK E o ⟨gr, s.bx⟩ fun s => axOps E all os s K
              | false => setK o.dst (.val undef) gr fun fr => axOps E all os ⟨fr, s.bx⟩ K) ∧
            (c = false → s.fr.putK g .ff fun gr => match b with
              | false => opK E o ⟨gr, s.bx⟩ fun s => axOps E all os s K
              | true => setK o.dst (.val undef) gr fun fr => axOps E all os ⟨fr, s.bx⟩ K)
          | .tuple _ => setK o.dst (.val undef) s.fr fun fr => axOps E all os ⟨fr, s.bx⟩ K
          | _ => False
        | _ => False

inductive Ex where
  | normal
  | exit (n : Nat)
  | ret

def WeakL : List SV → List SV → Prop
  | [], [] => True
  | x :: xs, y :: ys => match y with
    | .junk => WeakL xs ys
    | y => Sub x y ∧ WeakL xs ys
  | _, _ => False
/-- does a value name a box that is not there? -/
def refOk (bx : Tr (Option (List SV))) : SV → Bool
  | .box b _ => match bx.get b none with | some _ => true | none => false
  | .arr b _ _ _ _ => match bx.get b none with | some _ => true | none => false
  | .plc b _ _ _ => match bx.get b none with | some _ => true | none => false
  | .agg l => refOks bx l
  | .tup l => refOks bx l
  | .fn _ l => refOks bx l
  | _ => true
where refOks (bx : Tr (Option (List SV))) : List SV → Bool
  | [] => true
  | x :: xs => match refOk bx x with | true => refOks bx xs | false => false
def refOkT (bx : Tr (Option (List SV))) : Tr SV → Bool
  | .nil => true
  | .node v l r => match refOk bx v with
    | true => match refOkT bx l with | true => refOkT bx r | false => false
    | false => false
def refOkB (bx : Tr (Option (List SV))) : Tr (Option (List SV)) → Bool
  | .nil => true
  | .node v l r => match (match v with | none => true | some cs => refOk.refOks bx cs) with
    | true => match refOkB bx l with | true => refOkB bx r | false => false
    | false => false
def weakT : Tr SV → Tr SV → Prop → Prop
  | .nil, .nil, k => k
  | .node v l r, .node v' l' r', k => match v' with
    | .junk => weakT l l' (weakT r r' k)
    | v' => Sub v v' ∧ weakT l l' (weakT r r' k)
  | _, _, _ => False
def weakB : Tr (Option (List SV)) → Tr (Option (List SV)) → Prop → Prop
  | .nil, .nil, k => k
  | .node v l r, .node v' l' r', k => match v' with
    | none => weakB l l' (weakB r r' k)
    | some ct => match v with
      | some cs => match isMany cs with
        | true => match isMany ct with
          | true => WeakL cs ct ∧ weakB l l' (weakB r r' k)
          | false => False
        | false => match isMany ct with
          | true => False
          | false => WeakL cs ct ∧ weakB l l' (weakB r r' k)
      | none => manyK ct fun T sz c d q => (q = [] ∧ 0 < sz ∧ ∀ x, (c x).length = sz ∧ imm.imms (c x) = true ∧ allOk (c x) = true) ∧ weakB l l' (weakB r r' k)
  | _, _, _ => False
/-- a state for another one that says more -/
def Weak (s t : ASt) : Prop := (refOkT t.bx t.fr = true ∧ refOkB t.bx t.bx = true) ∧ weakT s.fr t.fr (weakB s.bx t.bx True)

/-- the temporaries that an operation looks at; that its guard does -/
def tmpsIn (op : Op) : List Nat := op.operands.toList.filterMap fun | .tmp t => some t | _ => none
def gIn (all : List Oper) (o : Oper) : List Nat := match o.guard with
  | some (j, _) => (gOf all j).toList
  | none => []
def memR : Op → Bool
  | .load _ _ => true
  | .call c => match c.callee with | .value _ => true | _ => false
  | _ => false
def memW (bs : List Nat) : Op → Bool
  | .alloc _ => true
  | .box _ _ => true
  | .store _ _ _ => true
  | .call c => match isClear c.callee with
    | true => true
    | false => match bcall bs c.callee with
      | some _ => true
      | none => false
  | .buildSlice _ _ _ => hasVec bs
  | .makeSlice _ _ _ => true
  | _ => false
/-- what makes a variable -/
def memA : Op → Bool
  | .alloc _ => true
  | .box _ _ => true
  | .makeSlice _ _ _ => true
  | _ => false
/-- what an append may overtake -/
def easy : Op → Bool
  | .move (.tmp _) => true
  | .fieldAddr _ (.tmp _) _ => true
  | .load _ (.tmp _) => true
  | _ => false
def isBC (bs : List Nat) : Op → Bool
  | .call c => match isClear c.callee with
    | true => false
    | false => match bcall bs c.callee with
      | some _ => true
      | none => false
  | _ => false
/-- what changes variables, and a load that it does not reach -/
def qp (bs : List Nat) (x y : Op) : Bool := (isBC bs x && isQL bs y) || (isSS bs x && isSL bs y)
/-- two operations that may come in either order -/
def indep (bs : List Nat) (all : List Oper) (x y : Oper) : Bool :=
  (match x.dst with | some d => !(tmpsIn y.op).contains d && !(gIn all y).contains d && y.dst != some d | none => true) &&
  (match y.dst with | some d => !(tmpsIn x.op).contains d && !(gIn all x).contains d | none => true) &&
  ((gIn all x).all fun g => !(tmpsIn y.op).contains g) && ((gIn all y).all fun g => !(tmpsIn x.op).contains g) &&
  !(memW bs x.op && (memR y.op || memW bs y.op) && !(qp bs x.op y.op)) && !(memW bs y.op && memR x.op && !memA y.op && !(qp bs y.op x.op)) && (match (isApp x.op).isNone with
    | true => (isApp y.op).isNone || (easy x.op && x.guard.isNone && y.guard.isNone && !hasVec bs)
    | false => (isApp y.op).isNone && (easy y.op && x.guard.isNone && y.guard.isNone && !hasVec bs)) &&
  (isFrz bs x).isNone && (isFrz bs y).isNone
def preds (o : Oper) : List Nat := o.after.toList.filterMap fun e => if Region.binds .any e then some e.on else none
def maskOf (B : List Nat) (o : Oper) : Nat := (preds o).foldl (fun s p => s ||| (2 ^ p ||| B.getD p 0)) 0
def masks : List Oper → List Nat → List Nat
  | [], acc => acc
  | o :: os, acc => masks os (acc ++ [maskOf acc o])
def orderOkB (bs : List Nat) (ops : List Oper) (B : List Nat) : Bool :=
  (List.range ops.length).all fun i => match ops[i]? with
    | none => false
    | some o => (preds o).all (fun p => Nat.blt p i) && B.getD i 0 == maskOf B o &&
      (List.range i).all fun j => match ops[j]? with
        | none => false
        | some x => (B.getD i 0).testBit j || indep bs ops x o
def orderOk (bs : List Nat) (ops : List Oper) : Bool := orderOkB bs ops (masks ops [])

/-- a state of one shape with s, of which this is known -/
def blank : Tr SV → Tr SV
  | .nil => .nil
  | .node _ l r => .node .junk (blank l) (blank r)
def blankK : Tr SV → (Tr SV → Prop) → Prop
  | .nil, k => k .nil
  | .node _ l r, k => blankK l fun l => blankK r fun r => k (.node .junk l r)
def blankB : Tr (Option (List SV)) → Tr (Option (List SV))
  | .nil => .nil
  | .node _ l r => .node none (blankB l) (blankB r)
def blankBK : Tr (Option (List SV)) → (Tr (Option (List SV)) → Prop) → Prop
  | .nil, k => k .nil
  | .node _ l r, k => blankBK l fun l => blankBK r fun r => k (.node none l r)
def puts : List (Nat × SV) → Tr SV → Tr SV
  | [], t => t
  | (i, v) :: r, t => puts r (t.put i v)
def putsK : List (Nat × SV) → Tr SV → (Tr SV → Prop) → Prop
  | [], t, k => k t
  | (i, v) :: r, t, k => force v fun v => t.putK i v fun t => putsK r t k
def putsB : List (Nat × List SV) → Tr (Option (List SV)) → Tr (Option (List SV))
  | [], t => t
  | (i, cs) :: r, t => putsB r (t.put i (some cs))
def putsBK : List (Nat × List SV) → Tr (Option (List SV)) → (Tr (Option (List SV)) → Prop) → Prop
  | [], t, k => k t
  | (i, cs) :: r, t, k => forceL cs fun cs => t.putK i (some cs) fun t => putsBK r t k
def stOf (s : ASt) (f : List (Nat × SV)) (b : List (Nat × List SV)) : ASt := ⟨puts f (blank s.fr), putsB b (blankB s.bx)⟩
def stK (s : ASt) (f : List (Nat × SV)) (b : List (Nat × List SV)) (k : ASt → Prop) : Prop :=
  blankK s.fr fun fr => putsK f fr fun fr => blankBK s.bx fun bx => putsBK b bx fun bx => k ⟨fr, bx⟩

/-- the number of the region with which a piece of code begins -/
def firstR : Code → Nat
  | .region n _ _ => n
  | .seq a _ => firstR a
  | .block _ a => firstR a
  | .loop a => firstR a
  | .ret => 99998
  | _ => 99999
/-- whether a state of one's own choice stands ahead of this code -/
def cutAt (bs : List Nat) (c : Code) : Bool := match bs with
  | [] => false
  | _ :: _ => memN bs (Nat.add 900000 (firstR c))

/-- What a piece of code comes to. -/
def ax (E : Env) : Code → ASt → (Ex → ASt → Prop) → Prop
  | .skip, s, K => K .normal s
  | .region _ ops draw, s, K => match draw with
    | true => orderOk E.bs ops.toList = true ∧ axOps E ops.toList ops.toList s (K .normal)
    | false => axOps E ops.toList ops.toList s (K .normal)
  | .seq a b, s, K => match cutAt E.bs b with
    | false => ax E a s fun e s' => match e with
      | .normal => ax E b s' K
      | e => K e s'
    | true => ∃ (A : Type) (fs : A → List (Nat × SV)) (bs : A → List (Nat × List SV)) (inv : A → Prop), (ax E a s fun e s' => match e with
        | .normal => ∃ y, inv y ∧ stK s (fs y) (bs y) fun t => Weak s' t
        | e => K e s') ∧
      ∀ x, inv x → stK s (fs x) (bs x) fun t => ax E b t K
  | .cond c a b, s, K => match ev s c with
    | .tt => ax E a s K
    | .ff => ax E b s K
    | .val v => match v with
      | .bool t => (t = true → ax E a s K) ∧ (t = false → ax E b s K)
      | _ => False
    | .nb Q => (Q true → ax E a s K) ∧ (Q false → ax E b s K)
    | _ => False
  | .block id a, s, K => ax E a s fun e s' => match e with
    | .exit m => match Nat.beq m id with | true => K .normal s' | false => K (.exit m) s'
    | e => K e s'
  | .loop c, s, K => ∃ (A : Type) (fs : A → List (Nat × SV)) (bs : A → List (Nat × List SV)) (inv : A → Prop) (μ : A → Nat), (∃ x, inv x ∧ stK s (fs x) (bs x) fun t => Weak s t) ∧
      ∀ x, inv x → stK s (fs x) (bs x) fun t => ax E c t fun e s' => match e with
        | .normal => ∃ y, inv y ∧ μ y < μ x ∧ stK s (fs y) (bs y) fun t => Weak s' t
        | e => K e s'
  | .exit m, s, K => K (.exit m) s
  | .ret, s, K => K .ret s
  | _, _, _ => False
end Go.Proofs.YtimhbimpaiiceaaDoor.Ax
