/- Walks and laws, part 1: A1 A2 A3 A4. -/
import Derived.Calls
import Derived.Orders
import Derived.KernelRfl
import Derived.Below
import Derived.Laws.Sem
import Derived.Laws.World
import Derived.Laws.Cells
import Derived.Laws.IdiomCopy
import Derived.Laws.Entries
import Derived.ChangeKeysEq
/- The logic's words: symbolic values, symbolic states, and what a piece of code comes to on them. -/
set_option linter.unusedVariables false
set_option linter.unusedSimpArgs false
namespace Go.Proofs.Yteccinlmblijfaa.Ax
open Go

/-- A symbolic value. -/
inductive SV : Type 1
  | val (v : Value)
  | tt
  | ff
  | row (T : Type) (sz : Nat) (cs : T → List SV) (d : T) (l : List T)
  | own (T : Type) (sz : Nat) (cs : T → List SV) (d : T) (l : List T) (id : Nat)
  | elt (T : Type) (sz : Nat) (cs : T → List SV) (d : T) (l : List T) (i : Int) (o : Nat)
  | box (b o : Nat)
  | arr (b sz off n : Nat) (cap : Option Nat)
  | plc (b sz : Nat) (i : Int) (o : Nat)
  | many (T : Type) (sz : Nat) (cs : T → List SV) (d : T) (l : List T)
  | ifc
  | e0
  | agg (l : List SV)
  | tup (l : List SV)
  | fn (g : Nat) (caps : List SV)
  | nb (Q : Bool → Prop)
  | junk

/-- What is known of blocks of one's own that are no variables (a map, a tree of rows): it hangs on these blocks alone. -/
structure Side where
  holds : World → Prop
  blk : Nat → Prop
  loc : ∀ w w', (∀ k, blk k → w'.heap[k]? = w.heap[k]?) → holds w → holds w'
  inw : ∀ w, holds w → ∀ k, blk k → k < w.heap.size
/-- nothing -/
def Side.emp : Side := ⟨fun _ => True, fun _ => False, fun _ _ _ _ => trivial, fun _ _ _ h => h.elim⟩
/-- .. as the content of a variable without cells (it stands under the name 9999) -/
def sideB (X : Side) : List SV := [.many Side 7777 (fun _ => List.replicate 7777 .tt) X []]

/-- A row of places, by halves: place 0 at the root, 1, 3, 5.. at the left, 2, 4, 6.. at the right. -/
inductive Tr (α : Type _) where
  | nil
  | node (v : α) (l r : Tr α)
def Tr.get {α : Type _} : Tr α → Nat → α → α
  | .nil, _, d => d
  | .node v l r, i, d => match i with
    | 0 => v
    | i + 1 => match Nat.mod i 2 with
      | 0 => l.get (Nat.div i 2) d
      | _ => r.get (Nat.div i 2) d
def Tr.put {α : Type _} : Tr α → Nat → α → Tr α
  | .nil, _, _ => .nil
  | .node x l r, i, v => match i with
    | 0 => .node v l r
    | i + 1 => match Nat.mod i 2 with
      | 0 => .node x (l.put (Nat.div i 2) v) r
      | _ => .node x l (r.put (Nat.div i 2) v)
/-- the same, told at once -/
def Tr.putK {α : Type _} : Tr α → Nat → α → (Tr α → Prop) → Prop
  | .nil, _, _, k => k .nil
  | .node x l r, i, v, k => match i with
    | 0 => k (.node v l r)
    | i + 1 => match Nat.mod i 2 with
      | 0 => l.putK (Nat.div i 2) v fun l => k (.node x l r)
      | _ => r.putK (Nat.div i 2) v fun r => k (.node x l r)
def Tr.has {α : Type _} : Tr α → Nat → Bool
  | .nil, _ => false
  | .node _ l r, i => match i with
    | 0 => true
    | i + 1 => match Nat.mod i 2 with
      | 0 => l.has (Nat.div i 2)
      | _ => r.has (Nat.div i 2)
/-- n places, all alike -/
def Tr.mk {α : Type _} (v : α) : Nat → Nat → Tr α
  | 0, _ => .nil
  | f + 1, n => match n with
    | 0 => .nil
    | n + 1 => .node v (Tr.mk v f (Nat.div (n + 1) 2)) (Tr.mk v f (Nat.div n 2))
def Tr.fill {α : Type _} : Tr α → Nat → List α → Tr α
  | t, _, [] => t
  | t, i, x :: xs => (t.put i x).fill (i + 1) xs
/-- A symbolic state: temporaries, boxes (variables in memory, by the temporary that was given their address). -/
structure ASt : Type 1 where
  fr : Tr SV
  bx : Tr (Option (List SV))

/-- What is known of a type. -/
structure TI where
  agg : Bool := false
  size : Nat := 1
  zero : List Value := []
  flds : List (Nat × Nat) := []
  slice : Bool := false
  str : Bool := false
  bool : Bool := false
  elem : Nat := 0
  bytes : Nat := 8
  int : Option IntKind := none
  iface : Bool := false

def assoc {α : Type _} : List (Nat × α) → Nat → α → α
  | [], _, d => d
  | (k, v) :: r, n, d => match Nat.beq k n with | true => v | false => assoc r n d
def at' {α : Type _} : List α → Nat → α → α
  | [], _, d => d
  | x :: _, 0, _ => x
  | _ :: xs, n + 1, d => at' xs n d
def dropN {α : Type _} : Nat → List α → List α
  | 0, l => l
  | _ + 1, [] => []
  | n + 1, _ :: xs => dropN n xs
def takeN {α : Type _} : Nat → List α → List α
  | 0, _ => []
  | _ + 1, [] => []
  | n + 1, x :: xs => x :: takeN n xs
/-- cells laid over others, from place o on -/
def over {α : Type _} : Nat → List α → List α → List α
  | _, _, [] => []
  | 0, [], ys => ys
  | 0, x :: xs, _ :: ys => x :: over 0 xs ys
  | o + 1, xs, y :: ys => y :: over o xs ys

/-- A function's contract: its arguments' values, when it holds, what it answers. -/
structure Ctr : Type 1 where
  A : Type
  enc : A → List SV
  dom : A → Prop
  res : A → Nat → SV
  fresh : Bool := false
  gl : World → Prop := fun _ => True

/-- A struct type's equality: its values, and when two are one. -/
structure EqC : Type 1 where
  A : Type
  cs : A → List SV
  eq : A → A → Bool

/-- A contract of a function that changes variables that it is handed. These are named 1000, 1001, .. as they are met; pre, post: their cells;
one more in post than in pre: a variable that it makes. -/
structure CtrB : Type 1 where
  A : Type
  enc : A → List SV
  pre : A → List (List SV)
  dom : A → Prop
  res : A → Nat → SV
  post : A → Nat → List (List SV)
  gl : World → Prop := fun _ => True

/-- A contract of a function that turns what is known of such blocks: pre, post; O: what it chooses. Its answers name no cell but by number. -/
structure CtrX : Type 1 where
  A : Type
  O : Type
  enc : A → List SV
  pre : A → Side
  dom : A → Prop
  res : A → O → SV
  post : A → O → Side
  gl : World → Prop := fun _ => True

structure Env : Type 1 where
  ty : List (Nat × TI)
  ctr : Nat → Option Ctr
  eqs : Nat → Option EqC := fun _ => none
  ctrB : Nat → Option CtrB := fun _ => none
  ctrX : Nat → Option CtrX := fun _ => none
  sd : Bool := false
  opx : Oper → (Operand → SV) → Side → (O : Type) → (O → Side) → (O → SV) → Prop := fun _ _ _ _ _ _ => False
  bs : List Nat := []
  gl : World → Prop := fun _ => True

/-- a byte in memory; a row of bytes -/
def byteC (b : UInt8) : List SV := [.val (.int .u8 (b.toNat : Int))]
def byteRow (l : List UInt8) : SV := .row UInt8 1 byteC 0 l
def isU8 : Option IntKind → Bool
  | some k => match k with
    | .u8 => true
    | _ => false
  | none => false
def tiK {α : Type _} : List (Nat × α) → Nat → (α → Prop) → Prop
  | [], _, _ => False
  | (k, v) :: r, n, f => match Nat.beq k n with | true => f v | false => tiK r n f

def ev (s : ASt) : Operand → SV
  | .tmp t => s.fr.get t .junk
  | .const v => match v with
    | .bool b => match b with | true => .tt | false => .ff
    | .agg cs => .agg (cs.toList.map SV.val)
    | v => .val v
  | .global _ => .junk
  | .func f => .fn f []

def setK {α : Type _} (d : Option Nat) (v : α) (fr : Tr α) (k : Tr α → Prop) : Prop := match d with
  | some d => fr.putK d v k
  | none => k fr
def force (x : SV) (k : SV → Prop) : Prop := match x with
  | .val v => k (.val v)
  | .tt => k .tt
  | .ff => k .ff
  | .row T sz cs d l => k (.row T sz cs d l)
  | .own T sz cs d l id => k (.own T sz cs d l id)
  | .elt T sz cs d l i o => k (.elt T sz cs d l i o)
  | .box b o => k (.box b o)
  | .arr b z o n c => k (.arr b z o n c)
  | .plc b z i o => k (.plc b z i o)
  | .many T sz cs d l => k (.many T sz cs d l)
  | .ifc => k .ifc
  | .e0 => k .e0
  | .agg l => k (.agg l)
  | .tup l => k (.tup l)
  | .fn g l => k (.fn g l)
  | .nb Q => k (.nb Q)
  | .junk => k .junk
def forceL : List SV → (List SV → Prop) → Prop
  | [], k => k []
  | x :: xs, k => force x fun x => forceL xs fun xs => k (x :: xs)
def fldK : List (Nat × Nat) → Nat → (Nat → Nat → Prop) → Prop
  | [], _, _ => False
  | (o, t) :: _, 0, k => k o t
  | _ :: r, n + 1, k => fldK r n k
/-- a value's cells; what is one whole of them -/
def cellsK (x : SV) (k : List SV → Prop) : Prop := match x with
  | .agg l => k l
  | .tup _ => False
  | .junk => False
  | .val v => match v with | .agg _ => False | .tuple _ => False | v => k [.val v]
  | .tt => k [.tt]
  | .ff => k [.ff]
  | .row T sz cs d l => k [.row T sz cs d l]
  | .own T sz cs d l id => k [.own T sz cs d l id]
  | .elt T sz cs d l i o => k [.elt T sz cs d l i o]
  | .box b o => k [.box b o]
  | .arr b z o n c => k [.arr b z o n c]
  | .plc b z i o => k [.plc b z i o]
  | .many _ _ _ _ _ => False
  | .ifc => k [.ifc]
  | .e0 => k [.e0]
  | .fn g l => k [.fn g l]
  | .nb Q => k [.nb Q]
def wholeK (agg : Bool) (l : List SV) (k : SV → Prop) : Prop := match agg with
  | true => forceL l fun l => k (.agg l)
  | false => force (at' l 0 .junk) k
/-- a cell that may be stored -/
def cellOk : SV → Bool
  | .val v => match v with | .agg _ => false | .tuple _ => false | _ => true
  | .agg _ => false
  | .tup _ => false
  | .junk => false
  | .many _ _ _ _ _ => false
  | _ => true
/-- a variable of plain cells -/
def plain : List SV → Bool
  | [] => false
  | c :: _ => match c with
    | .many _ _ _ _ _ => false
    | _ => true
/-- a variable that is a row of places of any number -/
def manyK (cs : List SV) (k : (T : Type) → Nat → (T → List SV) → T → List T → Prop) : Prop := match cs with
  | [] => False
  | c :: r => match c with
    | .many T sz c d l => match r with
      | [] => k T sz c d l
      | _ :: _ => False
    | _ => False
def isMany : List SV → Bool
  | [] => false
  | c :: _ => match c with
    | .many _ _ _ _ _ => true
    | _ => false
/-- how many cells a variable has, and what they hold -/
def xlen : List SV → Nat
  | [.many _ sz _ _ l] => l.length * sz
  | cs => cs.length
def xat : List SV → Nat → SV
  | [.many _ sz c d l], j => at' (c (l.getD (j / sz) d)) (j % sz) .junk
  | cs, j => at' cs j .junk
def allOk : List SV → Bool
  | [] => true
  | x :: xs => match cellOk x with | true => allOk xs | false => false

/-- one value for another that says more -/
inductive Sub : SV → SV → Prop
  | refl (x) : Sub x x
  | junk (x) : Sub x .junk
  | own (T sz cs d l id) : Sub (.own T sz cs d l id) (.row T sz cs d l)
  | nil (T sz cs d) : Sub (.val (.slice none 0 0)) (.row T sz cs d [])
  | nilO (T sz cs d id) : Sub (.val (.slice none 0 0)) (.own T sz cs d [] id)
  | e0 (T sz cs d) : Sub .e0 (.row T sz cs d [])
  | e0O (T sz cs d id) : Sub .e0 (.own T sz cs d [] id)
  | nil0 : Sub (.val (.slice none 0 0)) .e0
  | nilA (b z o) : Sub (.val (.slice none 0 0)) (.arr b z o 0 none)
  | cap (b z o n c) : Sub (.arr b z o n c) (.arr b z o n none)
  | tt : Sub .tt (.val (.bool true))
  | ff : Sub .ff (.val (.bool false))
  | tt' : Sub (.val (.bool true)) .tt
  | ff' : Sub (.val (.bool false)) .ff
  | agg (a b) (h : a.length = b.length) (hs : ∀ j, j < a.length → Sub (at' a j .junk) (at' b j .junk)) : Sub (.agg a) (.agg b)
  | tup (a b) (h : a.length = b.length) (hs : ∀ j, j < a.length → Sub (at' a j .junk) (at' b j .junk)) : Sub (.tup a) (.tup b)
/-- lists of values, one by one -/
def SubL : List SV → List SV → Prop
  | [], [] => True
  | x :: xs, y :: ys => Sub x y ∧ SubL xs ys
  | _, _ => False

/-- what a bool is -/
def asB (x : SV) (k : Bool → Prop) : Prop := match x with
  | .tt => k true
  | .ff => k false
  | .val v => match v with | .bool b => k b | _ => False
  | _ => False
def ofB (b : Bool) : SV := .val (.bool b)
def intBin (op : BinOp) (kk : IntKind) (a b : Int) (k : SV → Prop) : Prop := match op with
  | .add => k (.val (.int kk (kk.wrap (a + b))))
  | .sub => k (.val (.int kk (kk.wrap (a - b))))
  | .mul => k (.val (.int kk (kk.wrap (a * b))))
  | .quo => b ≠ 0 ∧ k (.val (.int kk (kk.wrap (a.tdiv b))))
  | .rem => b ≠ 0 ∧ k (.val (.int kk (a.tmod b)))
  | .eql => k (ofB (a == b))
  | .neq => k (ofB (a != b))
  | .lss => k (ofB (decide (a < b)))
  | .leq => k (ofB (decide (a ≤ b)))
  | .gtr => k (ofB (decide (a > b)))
  | .geq => k (ofB (decide (a ≥ b)))
  | _ => False
def ikEq : IntKind → IntKind → Bool
  | .i8, .i8 => true | .i16, .i16 => true | .i32, .i32 => true | .i64, .i64 => true
  | .u8, .u8 => true | .u16, .u16 => true | .u32, .u32 => true | .u64, .u64 => true
  | _, _ => false
def boolBin (op : BinOp) (a b : Bool) (k : SV → Prop) : Prop := match op with
  | .eql => k (ofB (a == b))
  | .neq => k (ofB (!(a == b)))
  | _ => False
def strBin (op : BinOp) (a b : ByteArray) (k : SV → Prop) : Prop := match op with
  | .add => (a.size + b.size < 4611686018427387904) ∧ k (.val (.string (a ++ b)))
  | .eql => k (ofB (a.toList == b.toList))
  | .neq => k (ofB (!(a.toList == b.toList)))
  | _ => False
def aggBin (op : BinOp) (b : Bool) (k : SV → Prop) : Prop := match op with
  | .eql => k (ofB b)
  | .neq => k (ofB (!b))
  | _ => False
def bool2 (E : Env) (t : Nat) (op : BinOp) (a : Bool) (y : SV) (k : SV → Prop) : Prop :=
  tiK E.ty t fun t => match t.bool with
    | true => asB y fun b => boolBin op a b k
    | false => False
/-- a row against nil: what has entries is none -/
def nilBin (E : Env) (t : Nat) (op : BinOp) (e : Bool) (y : SV) (k : SV → Prop) : Prop := tiK E.ty t fun t => match t.slice with
  | true => match y with
    | .val v => match v with
      | .slice a n c => match a with
        | none => match n with
          | 0 => match c with
            | 0 => match op with
              | .eql => k (.nb fun b => e = false → b = false)
              | .neq => k (.nb fun b => e = false → b = true)
              | _ => False
            | _ => False
          | _ => False
        | some _ => False
      | _ => False
    | _ => False
  | false => False
def isE {α : Type _} : List α → Bool
  | [] => true
  | _ :: _ => false
def isConst : Operand → Bool
  | .const _ => true
  | _ => false
/-- an interface's value against nil -/
def ifcBin (E : Env) (t : Nat) (op : BinOp) (b : Bool) (y : SV) (k : SV → Prop) : Prop := tiK E.ty t fun t => match t.iface with
  | true => match y with
    | .val v => match v with
      | .nilIface => aggBin op b k
      | _ => False
    | _ => False
  | false => False
def binK (E : Env) (t : Nat) (op : BinOp) (x y : SV) (c : Bool) (k : SV → Prop) : Prop := match x with
  | .row _ _ _ _ l => nilBin E t op (isE l) y k
  | .own _ _ _ _ l _ => nilBin E t op (isE l) y k
  | .val v => match v with
    | .int kk a => match y with
      | .val u => match u with
        | .int kk' b => match ikEq kk kk' with | true => intBin op kk a b k | false => False
        | _ => False
      | _ => False
    | .string a => match y with
      | .val u => match u with
        | .string b => strBin op a b k
        | _ => False
      | _ => False
    | .bool a => bool2 E t op a y k
    | .nilIface => match c with
      | true => ifcBin E t op true y k
      | false => False
    | _ => False
  | .tt => bool2 E t op true y k
  | .ff => bool2 E t op false y k
  | .ifc => ifcBin E t op false y k
  | .agg l => match y with
    | .agg r => match E.eqs t with
      | some c => ∃ u v : c.A, SubL l (c.cs u) ∧ SubL r (c.cs v) ∧ aggBin op (c.eq u v) k
      | none => False
    | _ => False
  | _ => False
def unK (op : UnOp) (x : SV) (k : SV → Prop) : Prop := match op with
  | .not => match x with
    | .tt => k .ff
    | .ff => k .tt
    | .val v => match v with | .bool b => k (ofB (!b)) | _ => False
    | _ => False
  | .neg => match x with
    | .val v => match v with | .int kk n => k (.val (.int kk (kk.wrap (0 - n)))) | _ => False
    | _ => False
  | _ => False

def lenK (x : SV) (k : SV → Prop) : Prop := match x with
  | .row _ _ _ _ l => k (.val (.int .i64 l.length))
  | .own _ _ _ _ l _ => k (.val (.int .i64 l.length))
  | .arr _ _ _ n _ => k (.val (.int .i64 n))
  | .e0 => k (.val (.int .i64 0))
  | .val v => match v with
    | .slice a n _ => match a with | none => (match n with | 0 => k (.val (.int .i64 0)) | _ => False) | some _ => False
    | _ => False
  | _ => False

/-- nothing in a value is a variable's address, or may grow -/
def imm : SV → Bool
  | .box _ _ => false
  | .arr _ _ _ _ _ => false
  | .plc _ _ _ _ => false
  | .own _ _ _ _ _ _ => false
  | .agg l => imms l
  | .tup l => imms l
  | .fn _ l => imms l
  | _ => true
where imms : List SV → Bool
  | [] => true
  | x :: xs => match imm x with | true => imms xs | false => false

def lenTK (E : Env) (ts : List Nat) (x : SV) (k : SV → Prop) : Prop := match ts with
  | [t] => tiK E.ty t fun t => match t.slice with
    | true => lenK x k
    | false => match t.str with
      | true => match x with
        | .val v => match v with | .string s => k (.val (.int .i64 s.size)) | _ => False
        | _ => False
      | false => False
  | _ => False
/-- a variable's cells, or a row, lent to a callee that only reads -/
def lendW (f : Nat → Nat → SV) (g : Nat → Nat → Nat → Nat → SV) : SV → SV
  | .own T sz cs d l _ => .row T sz cs d l
  | .box b o => f b o
  | .arr b z o n _ => g b z o n
  | .plc _ _ _ _ => .junk
  | .agg l => .agg (lendsW f g l)
  | .tup l => .tup (lendsW f g l)
  | .fn h l => .fn h (lendsW f g l)
  | x => x
where lendsW (f : Nat → Nat → SV) (g : Nat → Nat → Nat → Nat → SV) : List SV → List SV
  | [] => []
  | x :: xs => lendW f g x :: lendsW f g xs
def lookT : List (Nat × List SV) → Nat → Option (List SV)
  | [], _ => none
  | (k, v) :: r, n => match Nat.beq k n with
    | true => some v
    | false => lookT r n
def lendR (tb : List (Nat × List SV)) (b z off n : Nat) : SV := match lookT tb b with
  | some cs => manyK' cs .junk fun T sz c d l => match Nat.beq z sz with
    | true => .row T sz c d ((l.drop off).take n)
    | false => .junk
  | none => .junk
where manyK' (cs : List SV) (z : SV) (k : (T : Type) → Nat → (T → List SV) → T → List T → SV) : SV := match cs with
  | [] => z
  | c :: r => match c with
    | .many T sz c d l => match r with
      | [] => k T sz c d l
      | _ :: _ => z
    | _ => z
def lendB (tb : List (Nat × List SV)) : Nat → Nat → Nat → SV
  | 0, _, _ => .junk
  | n + 1, b, o => match lookT tb b with
    | some cs => match plain cs with
      | true => .elt Unit cs.length (fun _ => lendW.lendsW (lendB tb n) (lendR tb) cs) () [()] 0 o
      | false => .junk
    | none => .junk
/-- the variables that values name -/
def boxesOf : SV → List Nat → List Nat
  | .box b _, r => b :: r
  | .arr b _ _ _ _, r => b :: r
  | .plc b _ _ _, r => b :: r
  | .agg l, r => boxesOfs l r
  | .tup l, r => boxesOfs l r
  | .fn _ l, r => boxesOfs l r
  | _, r => r
where boxesOfs : List SV → List Nat → List Nat
  | [], r => r
  | x :: xs, r => boxesOf x (boxesOfs xs r)
/-- their cells -/
def gatherK (bx : Tr (Option (List SV))) : Nat → List Nat → List (Nat × List SV) → (List (Nat × List SV) → Prop) → Prop
  | 0, _, tb, k => k tb
  | _ + 1, [], tb, k => k tb
  | n + 1, id :: r, tb, k => match bx.get id none with
    | none => False
    | some cs => gatherK bx n (boxesOf.boxesOfs cs r) ((id, cs) :: tb) k
/-- does a value name a variable? -/
def hasB : SV → Bool
  | .box _ _ => true
  | .arr _ _ _ _ _ => true
  | .plc _ _ _ _ => true
  | .agg l => hasBs l
  | .tup l => hasBs l
  | .fn _ l => hasBs l
  | _ => false
where hasBs : List SV → Bool
  | [] => false
  | x :: xs => match hasB x with | true => true | false => hasBs xs
/-- a value that hangs on no cell -/
def scal : SV → Bool
  | .val _ => true
  | .tt => true
  | .ff => true
  | .junk => true
  | .ifc => true
  | .agg l => scals l
  | .tup l => scals l
  | _ => false
where scals : List SV → Bool
  | [] => true
  | x :: xs => match scal x with | true => scals xs | false => false
/-- what is lent of a row that may be written lies in it -/
def arrC (tb : List (Nat × List SV)) : SV → Prop → Prop
  | .arr b _ o n _, k => match lookT tb b with
    | some cs => match cs with
      | [] => k
      | c :: _ => match c with
        | .many _ _ _ _ l => o + n ≤ l.length ∧ k
        | _ => k
    | none => k
  | .agg l, k => arrCs tb l k
  | .tup l, k => arrCs tb l k
  | .fn _ l, k => arrCs tb l k
  | _, k => k
where arrCs (tb : List (Nat × List SV)) : List SV → Prop → Prop
  | [], k => k
  | x :: xs, k => arrC tb x (arrCs tb xs k)
def arrT (tb : List (Nat × List SV)) : List (Nat × List SV) → Prop → Prop
  | [], k => k
  | (_, cs) :: r, k => arrC.arrCs tb cs (arrT tb r k)
def arrL (tb : List (Nat × List SV)) : SV → List (Nat × Nat) → List (Nat × Nat)
  | .arr b _ o n _, r => match lookT tb b with
    | some cs => match cs with
      | [] => r
      | c :: _ => match c with
        | .many _ _ _ _ l => (o + n, l.length) :: r
        | _ => r
    | none => r
  | .agg l, r => arrLs tb l r
  | .tup l, r => arrLs tb l r
  | .fn _ l, r => arrLs tb l r
  | _, r => r
where arrLs (tb : List (Nat × List SV)) : List SV → List (Nat × Nat) → List (Nat × Nat)
  | [], r => r
  | x :: xs, r => arrL tb x (arrLs tb xs r)
def arrLT (tb : List (Nat × List SV)) : List (Nat × List SV) → List (Nat × Nat) → List (Nat × Nat)
  | [], r => r
  | (_, cs) :: q, r => arrL.arrLs tb cs (arrLT tb q r)
def condsK : List (Nat × Nat) → Prop → Prop
  | [], k => k
  | (a, b) :: r, k => a ≤ b ∧ condsK r k
/-- a call of a function with a contract; variables that it is handed it only reads -/
def enterK (d : Nat) (bx : Tr (Option (List SV))) (c : Ctr) (l : List SV) (k : SV → Prop) : Prop := match hasB.hasBs l with
  | false => ∃ x : c.A, SubL l (c.enc x) ∧ imm.imms (c.enc x) = true ∧ c.dom x ∧ force (c.res x d) k
  | true => gatherK bx 6 (boxesOf.boxesOfs l []) [] fun tb => condsK (arrL.arrLs tb l (arrLT tb tb [])) (∃ x : c.A, SubL (lendW.lendsW (lendB tb 3) (lendR tb) l) (c.enc x) ∧ imm.imms (c.enc x) = true ∧ c.dom x ∧ force (c.res x d) fun v => match c.fresh with
    | true => k v
    | false => match scal v with
      | true => k v
      | false => False)
/-- other names for variables, for rows that may grow -/
def nmW (f ow : Nat → Option Nat) : SV → SV
  | .own T sz cs d l id => match ow id with
    | some id => .own T sz cs d l id
    | none => .row T sz cs d l
  | .box b o => match f b with
    | some b => .box b o
    | none => .junk
  | .arr b z o n c => match f b with
    | some b => .arr b z o n c
    | none => .junk
  | .plc b z i o => match f b with
    | some b => .plc b z i o
    | none => .junk
  | .agg l => .agg (nmsW f ow l)
  | .tup l => .tup (nmsW f ow l)
  | .fn g l => .fn g (nmsW f ow l)
  | x => x
where nmsW (f ow : Nat → Option Nat) : List SV → List SV
  | [] => []
  | x :: xs => nmW f ow x :: nmsW f ow xs
def memN : List Nat → Nat → Bool
  | [], _ => false
  | x :: xs, n => match Nat.beq x n with
    | true => true
    | false => memN xs n
def memP {α : Type _} : List (Nat × α) → Nat → Bool
  | [], _ => false
  | (x, _) :: xs, n => match Nat.beq x n with
    | true => true
    | false => memP xs n
/-- the variables that a call reaches, in the order in which they are met, with their cells -/
def seenK (bx : Tr (Option (List SV))) : Nat → List Nat → List (Nat × List SV) → (List (Nat × List SV) → Prop) → Prop
  | 0, _, σ, k => k σ
  | _ + 1, [], σ, k => k σ
  | n + 1, id :: r, σ, k => match memP σ id with
    | true => seenK bx n r σ k
    | false => match bx.get id none with
      | none => False
      | some cs => seenK bx n (boxesOf.boxesOfs cs r) (σ ++ [(id, cs)]) k
/-- the callee's name of a variable -/
def nameN : List (Nat × List SV) → Nat → Nat → Option Nat
  | [], _, _ => none
  | (x, _) :: r, i, b => match Nat.beq x b with
    | true => some i
    | false => nameN r (i + 1) b
/-- the caller's name; d: of what is made -/
def backN : List (Nat × List SV) → Nat → Nat → Nat → Option Nat
  | [], d, i, b => match Nat.beq b i with
    | true => some d
    | false => none
  | (x, _) :: r, d, i, b => match Nat.beq b i with
    | true => some x
    | false => backN r d (i + 1) b
def subC (x y : List SV) : Prop := isMany x = isMany y ∧ SubL x y
def subLL : List (List SV) → List (List SV) → Prop
  | [], [] => True
  | x :: xs, y :: ys => subC x y ∧ subLL xs ys
  | _, _ => False
def namedL (f : Nat → Option Nat) : List (Nat × List SV) → List (List SV)
  | [] => []
  | (_, cs) :: r => nmW.nmsW f (fun _ => none) cs :: namedL f r
/-- where a number stands among cells, counted on from j -/
def ownAt (n : Nat) : List SV → Nat → Option Nat
  | [], _ => none
  | x :: r, j => match x with
    | .own _ _ _ _ _ id => match Nat.beq id n with
      | true => some j
      | false => ownAt n r (Nat.succ j)
    | _ => ownAt n r (Nat.succ j)
/-- numbers of the rows in handed variables, ahead of a call -/
def ownN : List (Nat × List SV) → Nat → Nat → Option Nat
  | [], _, _ => none
  | (_, cs) :: r, p, n => match ownAt n cs p with
    | some j => some (Nat.mul 100000 (Nat.succ j))
    | none => ownN r (Nat.add p 64) n
/-- .. and of those that are handed over themselves (l: the arguments) -/
def ownA (l : List SV) (σ : List (Nat × List SV)) (n : Nat) : Option Nat := match ownN σ 0 n with
  | some m => some m
  | none => ownN [(0, l)] 4032 n
/-- the variables behind a call -/
def backK (f : Nat → Option Nat) (d : Nat) : List (Nat × List SV) → List (List SV) → Tr (Option (List SV)) → (Tr (Option (List SV)) → Prop) → Prop
  | [], [], bx, k => k bx
  | [], [cs], bx, k => match bx.get d (some []) with
    | none => match Nat.blt d 1000 with
      | true => forceL (nmW.nmsW f some cs) fun cs => bx.putK d (some cs) k
      | false => False
    | some _ => False
  | (id, _) :: r, cs :: ps, bx, k => match Nat.blt id 9999 with
    | true => forceL (nmW.nmsW f some cs) fun cs => bx.putK id (some cs) fun bx => backK f d r ps bx k
    | false => False
  | _, _, _, _ => False
/-- is none of these a variable that only loads reach in an open order? -/
def noneQ (bs : List Nat) : List (Nat × List SV) → Nat → Bool
  | [], d => match memN bs (Nat.add 700000 d) with
    | true => false
    | false => true
  | (b, _) :: r, d => match memN bs (Nat.add 700000 b) with
    | true => false
    | false => noneQ bs r d
/-- a load of such a variable -/
def qLoad (bs : List Nat) : Operand → Bool
  | .tmp q => memN bs (Nat.add 500000 q)
  | _ => false
def isQL (bs : List Nat) : Op → Bool
  | .load _ x => qLoad bs x
  | _ => false
def isQB (bs : List Nat) : SV → Bool
  | .box b _ => memN bs (Nat.add 700000 b)
  | _ => false
/-- a load of a variable that no store of an open order reaches; such a store -/
def sLoad (bs : List Nat) : Operand → Bool
  | .tmp q => memN bs (Nat.add 510000 q)
  | _ => false
def isSL (bs : List Nat) : Op → Bool
  | .load _ x => match qLoad bs x with
    | true => false
    | false => sLoad bs x
  | _ => false
def isSB (bs : List Nat) : SV → Bool
  | .box b _ => memN bs (Nat.add 710000 b)
  | .elt _ _ _ _ _ _ _ => true
  | _ => false
def sStore (bs : List Nat) : Operand → Bool
  | .tmp q => memN bs (Nat.add 520000 q)
  | _ => false
def isSS (bs : List Nat) : Op → Bool
  | .store _ x _ => sStore bs x
  | _ => false
def offSB (bs : List Nat) : SV → Bool
  | .box b _ => match memN bs (Nat.add 710000 b) with
    | true => false
    | false => true
  | _ => false
def enterB (bs : List Nat) (d : Nat) (bx : Tr (Option (List SV))) (c : CtrB) (l : List SV) (k : SV → Tr (Option (List SV)) → Prop) : Prop :=
  seenK bx 8 (boxesOf.boxesOfs l []) [] fun σ => noneQ bs σ d = true ∧ ∃ x : c.A, SubL (nmW.nmsW (nameN σ 1000) (fun _ => none) l) (c.enc x) ∧ subLL (namedL (nameN σ 1000) σ) (c.pre x) ∧ c.dom x ∧
    backK (backN σ d 1000) d σ (c.post x d) bx fun bx => force (nmW (backN σ d 1000) some (c.res x d)) fun v => k v bx
def isClear : Callee → Bool
  | .builtin b => match b with
    | .clear => true
    | _ => false
  | _ => false
/-- a call of a function that changes variables -/
def bcall (bs : List Nat) : Callee → Option Nat
  | .value (.func g) => match memN bs g with
    | true => some g
    | false => none
  | _ => none
def callK (E : Env) (d : Nat) (bx : Tr (Option (List SV))) (c : Callee) (ρ : Operand → SV) (ts : List Nat) (args : List SV) (k : SV → Prop) : Prop := match c with
  | .builtin b => match b with
    | .len => match args with | [x] => lenTK E ts x k | _ => False
    | .max => match args with
      | [x, y] => match x with
        | .val v => match v with
          | .int kk a => match y with
            | .val u => match u with
              | .int kk' b => match ikEq kk kk' with | true => k (.val (.int kk (if a < b then b else a))) | false => False
              | _ => False
            | _ => False
          | _ => False
        | _ => False
      | _ => False
    | .min => match args with
      | [x, y] => match x with
        | .val v => match v with
          | .int kk a => match y with
            | .val u => match u with
              | .int kk' b => match ikEq kk kk' with | true => k (.val (.int kk (if b < a then b else a))) | false => False
              | _ => False
            | _ => False
          | _ => False
        | _ => False
      | _ => False
    | _ => False
  | .value f => match ρ f with
    | .fn g caps => match E.ctr g with
      | some c => forceL (args ++ caps) fun l => enterK d bx c l k
      | none => False
    | _ => False
  | _ => False

/-- nothing in a value may grow -/
def ownFree : SV → Bool
  | .own _ _ _ _ _ _ => false
  | .agg l => ownFrees l
  | .tup l => ownFrees l
  | .fn _ l => ownFrees l
  | _ => true
where ownFrees : List SV → Bool
  | [] => true
  | x :: xs => match ownFree x with | true => ownFrees xs | false => false
def loadK (t : TI) (p : SV) (bx : Tr (Option (List SV))) (k : SV → Prop) : Prop := match p with
  | .box b o => match bx.get b none with
    | some cs => match plain cs with
      | true => match Nat.ble (o + t.size) cs.length with
        | true => wholeK t.agg (takeN t.size (dropN o cs)) k
        | false => False
      | false => False
    | none => False
  | .plc b z i o => match bx.get b none with
    | some cs => manyK cs fun T sz c d l => match Nat.beq z sz with
      | true => match Nat.ble (o + t.size) sz with
        | true => match ownFree.ownFrees (takeN t.size (dropN o (c (l.getD i.toNat d)))) with
          | true => (0 ≤ i ∧ i < (l.length : Int)) ∧ wholeK t.agg (takeN t.size (dropN o (c (l.getD i.toNat d)))) k
          | false => False
        | false => False
      | false => False
    | none => False
  | .elt _ z cs d l i o => match Nat.ble (o + t.size) z with
    | false => False
    | true => match ownFree.ownFrees (takeN t.size (dropN o (cs (l.getD i.toNat d)))) with
      | true => wholeK t.agg (takeN t.size (dropN o (cs (l.getD i.toNat d)))) k
      | false => False
  | _ => False
def storeK (t : TI) (p : SV) (v : SV) (bx : Tr (Option (List SV))) (k : Tr (Option (List SV)) → Prop) : Prop := match p with
  | .box b o => match bx.get b none with
    | some cs => match plain cs with
      | true => cellsK v fun vs => match allOk vs with
        | true => match Nat.beq vs.length t.size with
          | true => match Nat.ble (o + vs.length) cs.length with
            | true => forceL (over o vs cs) fun cs => bx.putK b (some cs) k
            | false => False
          | false => False
        | false => False
      | false => False
    | none => False
  | .plc b z i o => match bx.get b none with
    | some cs => manyK cs fun T sz c d l => match Nat.beq z sz with
      | true => cellsK v fun vs => match allOk vs with
        | true => match Nat.beq vs.length t.size with
          | true => match Nat.ble (o + vs.length) sz with
            | true => (0 ≤ i ∧ i < (l.length : Int)) ∧ ∃ x : T, SubL (over o vs (c (l.getD i.toNat d))) (c x) ∧ bx.putK b (some [.many T sz c d (l.set i.toNat x)]) k
            | false => False
          | false => False
        | false => False
      | false => False
    | none => False
  | _ => False

/-- the cells of a row's entries, one behind the other -/
def flat {T : Type} (cs : T → List SV) : List T → List SV
  | [] => []
  | x :: xs => cs x ++ flat cs xs
/-- parts laid over cells: where each goes, how many cells it has -/
def fillK (ρ : Operand → SV) (place : Nat → (Nat → Nat → Prop) → Prop) : List (Nat × Operand) → List SV → (List SV → Prop) → Prop
  | [], cs, k => k cs
  | (i, x) :: r, cs, k => place i fun o n => cellsK (ρ x) fun vs => match Nat.beq vs.length n with
    | true => match Nat.ble (o + n) cs.length with
      | true => forceL (over o vs cs) fun cs => fillK ρ place r cs k
      | false => False
    | false => False
/-- so many times the same cells -/
def timesL {α : Type _} (l : List α) : Nat → List α
  | 0 => []
  | n + 1 => l ++ timesL l n
/-- a bound of a part of a row -/
def lowK (x : Option SV) (k : Int → Prop) : Prop := match x with
  | none => k 0
  | some v => match v with
    | .val v => match v with | .int _ n => k n | _ => False
    | _ => False
def cutRow {T : Type} (l : List T) (hi : Option SV) (lo : Int) (k : List T → Prop) : Prop := match hi with
  | none => (0 ≤ lo ∧ lo ≤ (l.length : Int)) ∧ k (l.drop lo.toNat)
  | some v => match v with
    | .val v => match v with
      | .int _ h => (0 ≤ lo ∧ lo ≤ h ∧ h ≤ (l.length : Int)) ∧ k ((l.take h.toNat).drop lo.toNat)
      | _ => False
    | _ => False
def cutStr (s : ByteArray) (hi : Option SV) (lo : Int) (k : ByteArray → Prop) : Prop := match hi with
  | none => (0 ≤ lo ∧ lo ≤ (s.size : Int)) ∧ k (s.extract lo.toNat s.size)
  | some v => match v with
    | .val v => match v with
      | .int _ h => (0 ≤ lo ∧ lo ≤ h ∧ h ≤ (s.size : Int)) ∧ k (s.extract lo.toNat h.toNat)
      | _ => False
    | _ => False
/-- a part of a variable that is a row -/
def cutA (n : Nat) (hi : Option SV) (lo : Int) (k : Nat → Nat → Prop) : Prop := match hi with
  | none => (0 ≤ lo ∧ lo ≤ (n : Int)) ∧ k lo.toNat (n - lo.toNat)
  | some v => match v with
    | .val v => match v with
      | .int _ h => (0 ≤ lo ∧ lo ≤ h ∧ h ≤ (n : Int)) ∧ k lo.toNat (h.toNat - lo.toNat)
      | _ => False
    | _ => False
def cutK (E : Env) (t : TI) (x : SV) (lo hi : Option SV) (k : SV → Prop) : Prop := match t.slice with
  | true => tiK E.ty t.elem fun u => match x with
    | .row T z cs d l => match Nat.beq z u.size with
      | true => lowK lo fun lo => cutRow l hi lo fun l => k (.row T z cs d l)
      | false => False
    | .own T z cs d l _ => match Nat.beq z u.size with
      | true => lowK lo fun lo => cutRow l hi lo fun l => k (.row T z cs d l)
      | false => False
    | .arr b z o n _ => match Nat.beq z u.size with
      | true => lowK lo fun lo => cutA n hi lo fun q m => k (.arr b z (o + q) m none)
      | false => False
    | _ => False
  | false => match t.str with
    | true => match x with
      | .val v => match v with | .string s => lowK lo fun lo => cutStr s hi lo fun s => k (.val (.string s)) | _ => False
      | _ => False
    | false => False

def buildK (E : Env) (ρ : Operand → SV) (t : Nat) (parts : List (Nat × Operand)) (k : SV → Prop) : Prop := tiK E.ty t fun t => match t.flds with
  | [] => False
  | _ :: _ => match Nat.ble 1 t.zero.length with
    | true => fillK ρ (fun i f => fldK t.flds i fun q u => tiK E.ty u fun u => f q u.size) parts (t.zero.map SV.val) fun cs => k (.agg cs)
    | false => False
def isNil {α : Type _} : List α → Bool
  | [] => true
  | _ :: _ => false
/-- a literal's row: one's own, or (where its temporary is marked) one that is read alone -/
def ownOr (bs : List Nat) (d : Nat) (T : Type) (sz : Nat) (cs : T → List SV) (e : T) (l : List T) (k : SV → Prop) : Prop := match memN bs (Nat.add 800000 d) with
  | true => k (.row T sz cs e l)
  | false => k (.own T sz cs e l d)
def buildSliceK (E : Env) (d : Nat) (ρ : Operand → SV) (t len : Nat) (parts : List (Nat × Operand)) (k : SV → Prop) : Prop := tiK E.ty t fun t => match t.slice with
  | true => match Nat.beq len 0 with
    | true => tiK E.ty t.elem fun _ => match isNil parts with
      | true => k .e0
      | false => False
    | false => tiK E.ty t.elem fun u => match Nat.beq u.zero.length u.size with
      | true => match Nat.ble 1 (len * u.size) with
        | true => match Nat.ble (len * u.size) 16777216 with
          | true => fillK ρ (fun i f => f (i * u.size) u.size) parts (timesL (u.zero.map SV.val) len) fun cells =>
            ∃ (T : Type) (cs : T → List SV) (e : T) (l : List T), (l.length = len ∧ (∀ x, (cs x).length = u.size)) ∧ SubL cells (flat cs l) ∧ imm.imms (flat cs l) = true ∧ ownOr E.bs d T u.size cs e l k
          | false => False
        | false => False
      | false => False
  | false => False
/-- is what a temporary gets a row that may be written? -/
def vecD (bs : List Nat) (d : Nat) : Bool := memN bs (Nat.add 1000000 d)
def hasVec : List Nat → Bool
  | [] => false
  | x :: xs => match Nat.ble 1000000 x with
    | true => true
    | false => hasVec xs
/-- a new row that may be written -/
def newVecK (d : Nat) (bx : Tr (Option (List SV))) (sz n : Nat) (ok : (T : Type) → (T → List SV) → List T → Prop) (k : SV → Tr (Option (List SV)) → Prop) : Prop := match Nat.blt d 1000 with
  | true => match bx.get d (some []) with
    | none => ∃ (T : Type) (cs : T → List SV) (e : T) (l : List T), (l.length = n ∧ (∀ x, (cs x).length = sz ∧ imm.imms (cs x) = true ∧ allOk (cs x) = true)) ∧ ok T cs l ∧ bx.putK d (some [.many T sz cs e l]) fun bx => k (.arr d sz 0 n (some n)) bx
    | some _ => False
  | false => False
def buildVecK (E : Env) (d : Nat) (ρ : Operand → SV) (t len : Nat) (parts : List (Nat × Operand)) (bx : Tr (Option (List SV))) (k : SV → Tr (Option (List SV)) → Prop) : Prop := tiK E.ty t fun t => match t.slice with
  | true => tiK E.ty t.elem fun u => match Nat.beq u.zero.length u.size with
    | true => match Nat.ble 1 (len * u.size) with
      | true => match Nat.ble (len * u.size) 16777216 with
        | true => fillK ρ (fun i f => f (i * u.size) u.size) parts (timesL (u.zero.map SV.val) len) fun cells => newVecK d bx u.size len (fun T cs l => SubL cells (flat cs l)) k
        | false => False
      | false => False
    | false => False
  | false => False
def makeVecK (E : Env) (d : Nat) (t : Nat) (len cap : SV) (bx : Tr (Option (List SV))) (k : SV → Tr (Option (List SV)) → Prop) : Prop := tiK E.ty t fun t => match t.slice with
  | true => tiK E.ty t.elem fun u => match Nat.beq u.zero.length u.size with
    | true => match Nat.ble 1 u.size with
      | true => match len with
        | .val v => match v with
          | .int _ n => match cap with
            | .val v => match v with
              | .int _ c => (0 ≤ n ∧ n = c ∧ n * (u.bytes : Int) ≤ 140737488355328 ∧ n < 4611686018427387904) ∧ newVecK d bx u.size n.toNat (fun T cs l => ∃ z, SubL (u.zero.map SV.val) (cs z) ∧ l = List.replicate n.toNat z) k
              | _ => False
            | _ => False
          | _ => False
        | _ => False
      | false => False
    | false => False
  | false => False
/-- the entries of a row that may be written are made zero -/
def clearK (E : Env) (ts : List Nat) (x : SV) (bx : Tr (Option (List SV))) (k : Tr (Option (List SV)) → Prop) : Prop := match ts with
  | [t] => tiK E.ty t fun t => match t.slice with
    | true => tiK E.ty t.elem fun u => match Nat.beq u.zero.length u.size with
      | true => match x with
        | .arr b z o n _ => match Nat.beq z u.size with
          | true => match bx.get b none with
            | some cs => manyK cs fun T sz c d l => match Nat.beq z sz with
              | true => (o + n ≤ l.length) ∧ ∃ x : T, SubL (u.zero.map SV.val) (c x) ∧ bx.putK b (some [.many T sz c d (l.take o ++ (List.replicate n x ++ l.drop (o + n)))]) k
              | false => False
            | none => False
          | false => False
        | _ => False
      | false => False
    | false => False
  | _ => False
def isZ : Option SV → Bool
  | none => true
  | some v => match v with
    | .val v => match v with
      | .int _ n => match n with
        | .ofNat n => Nat.beq n 0
        | _ => false
      | _ => false
    | _ => false
def anyRow : SV → Bool
  | .row _ _ _ _ _ => true
  | .own _ _ _ _ _ _ => true
  | .arr _ _ _ _ _ => true
  | .e0 => true
  | .val v => match v with
    | .slice _ _ _ => true
    | _ => false
  | _ => false
def sliceK (E : Env) (ρ : Operand → SV) (t : Nat) (x : Operand) (lo hi mx : Option Operand) (k : SV → Prop) : Prop := match mx with
  | none => tiK E.ty t fun t => cutK E t (ρ x) (lo.map ρ) (hi.map ρ) k
  | some m => tiK E.ty t fun t => match t.slice with
    | true => tiK E.ty t.elem fun _ => match isZ (some (ρ m)) with
      | true => match hi with
        | some h => match isZ (some (ρ h)) with
          | true => match isZ (lo.map ρ) with
            | true => match anyRow (ρ x) with
              | true => k .e0
              | false => False
            | false => False
          | false => False
        | none => False
      | false => False
    | false => False
def makeFuncK (ρ : Operand → SV) (f : Fn) (fs cs : List Operand) (k : SV → Prop) : Prop := match f with
  | .func g => match fs with
    | [] => forceL (cs.map ρ) fun l => k (.fn g l)
    | _ :: _ => False
  | _ => False

def convK (E : Env) (s0 t0 : Nat) (x : SV) (k : SV → Prop) : Prop := tiK E.ty s0 fun s => tiK E.ty t0 fun t => match t.int with
  | some kk => match x with
    | .val v => match v with | .int _ n => k (.val (.int kk (kk.wrap n))) | _ => False
    | _ => False
  | none => match t.str with
    | true => match s.slice with
      | true => tiK E.ty s.elem fun u => match isU8 u.int with
        | true => ∃ l : List UInt8, Sub x (byteRow l) ∧ k (.val (.string ⟨l.toArray⟩))
        | false => False
      | false => match s.str with
        | true => match x with
          | .val v => match v with | .string b => k (.val (.string b)) | _ => False
          | _ => False
        | false => False
    | false => match t.slice with
      | true => tiK E.ty t.elem fun u => match isU8 u.int with
        | true => match x with
          | .val v => match v with | .string b => k (.row UInt8 1 byteC 0 b.data.toList) | _ => False
          | .arr b z o n c => match Nat.beq s0 t0 with
            | true => match Nat.ble 1 n with
              | true => k (.arr b z o n c)
              | false => False
            | false => False
          | _ => False
        | false => False
      | false => False
def byteAt (s : ByteArray) (n : Nat) : Int := ((s.data.getD n 0).toNat : Int)
def indexK (E : Env) (t : Nat) (x i : SV) (k : SV → Prop) : Prop := tiK E.ty t fun t => match t.str with
  | true => match x with
    | .val v => match v with
      | .string s => match i with
        | .val v => match v with
          | .int _ n => (0 ≤ n ∧ n < (s.size : Int)) ∧ k (.val (.int .u8 (byteAt s n.toNat)))
          | _ => False
        | _ => False
      | _ => False
    | _ => False
  | false => False
/-- One operation: its value, and the boxes behind it. -/
def stepB (E : Env) (d : Nat) (op : Op) (ρ : Operand → SV) (bx : Tr (Option (List SV))) (k : SV → Tr (Option (List SV)) → Prop) : Prop := match op with
  | .move x => force (ρ x) fun v => k v bx
  | .assign x => force (ρ x) fun v => k v bx
  | .pick c a b => match ρ c with
    | .tt => force (ρ a) fun v => k v bx
    | .ff => force (ρ b) fun v => k v bx
    | _ => False
  | .alloc t => match Nat.blt d 1000 with
    | true => match bx.get d (some []) with
      | none => tiK E.ty t fun t => match t.zero with
        | [] => False
        | z :: zs => forceL ((z :: zs).map SV.val) fun cs => bx.putK d (some cs) fun bx => k (.box d 0) bx
      | some _ => False
    | false => False
  | .box _ x => match Nat.blt d 1000 with
    | true => match bx.get d (some []) with
      | none => cellsK (ρ x) fun cs => match plain cs with
        | true => bx.putK d (some cs) fun bx => k (.box d 0) bx
        | false => False
      | some _ => False
    | false => False
  | .load t x => match qLoad E.bs x with
    | true => match isQB E.bs (ρ x) with
      | true => tiK E.ty t fun t => loadK t (ρ x) bx fun v => k v bx
      | false => False
    | false => match sLoad E.bs x with
      | true => match isSB E.bs (ρ x) with
        | true => tiK E.ty t fun t => loadK t (ρ x) bx fun v => k v bx
        | false => False
      | false => tiK E.ty t fun t => loadK t (ρ x) bx fun v => k v bx
  | .nilCheck x => match ρ x with
    | .box b o => k (.box b o) bx
    | .elt T z cs d l i o => k (.elt T z cs d l i o) bx
    | .plc b z i o => k (.plc b z i o) bx
    | _ => False
  | .store t x y => match sStore E.bs x with
    | true => match offSB E.bs (ρ x) with
      | true => tiK E.ty t fun t => storeK t (ρ x) (ρ y) bx fun bx => k (.val undef) bx
      | false => False
    | false => tiK E.ty t fun t => storeK t (ρ x) (ρ y) bx fun bx => k (.val undef) bx
  | .fieldAddr t x f => match ρ x with
    | .box b o => tiK E.ty t fun t => fldK t.flds f fun q _ => k (.box b (o + q)) bx
    | .elt T z cs d l i o => tiK E.ty t fun t => fldK t.flds f fun q _ => k (.elt T z cs d l i (o + q)) bx
    | .plc b z i o => tiK E.ty t fun t => fldK t.flds f fun q _ => k (.plc b z i (o + q)) bx
    | _ => False
  | .field t x f => match ρ x with
    | .agg l => tiK E.ty t fun t => fldK t.flds f fun q u => tiK E.ty u fun u => match Nat.ble (q + u.size) l.length with
      | true => wholeK u.agg (takeN u.size (dropN q l)) fun v => k v bx
      | false => False
    | _ => False
  | .indexAddr t x i => match ρ i with
    | .val v => match v with
      | .int _ i => match ρ x with
        | .row T z cs d l => tiK E.ty t fun t => tiK E.ty t.elem fun u => match Nat.beq z u.size with
          | true => match t.slice with
            | true => (0 ≤ i ∧ i < (l.length : Int)) ∧ k (.elt T z cs d l i 0) bx
            | false => False
          | false => False
        | .own T z cs d l _ => tiK E.ty t fun t => tiK E.ty t.elem fun u => match Nat.beq z u.size with
          | true => match t.slice with
            | true => (0 ≤ i ∧ i < (l.length : Int)) ∧ k (.elt T z cs d l i 0) bx
            | false => False
          | false => False
        | .arr b z o n _ => tiK E.ty t fun t => tiK E.ty t.elem fun u => match Nat.beq z u.size with
          | true => match t.slice with
            | true => (0 ≤ i ∧ i < (n : Int)) ∧ k (.plc b z ((o : Int) + i) 0) bx
            | false => False
          | false => False
        | _ => False
      | _ => False
    | _ => False
  | .binOp op t x y _ => binK E t op (ρ x) (ρ y) (isConst x || isConst y) fun v => k v bx
  | .unOp op _ x => unK op (ρ x) fun v => k v bx
  | .extract x i => match ρ x with
    | .tup l => match Nat.blt i l.length with
      | true => force (at' l i .junk) fun v => k v bx
      | false => False
    | _ => False
  | .call c => match isClear c.callee with
    | true => match c.args.toList.map (ρ) with
      | [x] => force x fun x => clearK E c.argTypes.toList x bx fun bx => k (.tup []) bx
      | _ => False
    | false => match bcall E.bs c.callee with
      | none => callK E d bx c.callee ρ (c.argTypes.toList) (c.args.toList.map (ρ)) fun v => k v bx
      | some g => match E.ctrB g with
        | some cb => forceL (c.args.toList.map ρ) fun l => enterB E.bs d bx cb l k
        | none => False
  | .build t parts => buildK E ρ t parts.toList fun v => k v bx
  | .buildSlice t len parts => match vecD E.bs d with
    | true => buildVecK E d ρ t len parts.toList bx k
    | false => buildSliceK E d ρ t len parts.toList fun v => k v bx
  | .makeSlice t len cap => makeVecK E d t (ρ len) (ρ cap) bx k
  | .slice t x lo hi mx => sliceK E ρ t x lo hi mx fun v => k v bx
  | .makeFunc f fs cs => makeFuncK ρ f fs.toList cs.toList fun v => k v bx
  | .convert s t x => convK E s t (ρ x) fun v => k v bx
  | .index t x i => indexK E t (ρ x) (ρ i) fun v => k v bx
  | _ => False

/-- a value when the rows i and j may grow no more -/
def dgr (i j : Nat) : SV → SV
  | .own T sz cs d l id => match Nat.beq id i with
    | true => .row T sz cs d l
    | false => match Nat.beq id j with
      | true => .row T sz cs d l
      | false => .own T sz cs d l id
  | .agg l => .agg (dgrs i j l)
  | .tup l => .tup (dgrs i j l)
  | .fn g l => .fn g (dgrs i j l)
  | x => x
where dgrs (i j : Nat) : List SV → List SV
  | [] => []
  | x :: xs => dgr i j x :: dgrs i j xs
/-- the same, told at once -/
def dgrK (i j : Nat) : SV → (SV → Prop) → Prop
  | .own T sz cs d l id, k => match Nat.beq id i with
    | true => k (.row T sz cs d l)
    | false => match Nat.beq id j with
      | true => k (.row T sz cs d l)
      | false => k (.own T sz cs d l id)
  | .agg l, k => dgrsK i j l fun l => k (.agg l)
  | .tup l, k => dgrsK i j l fun l => k (.tup l)
  | .fn g l, k => dgrsK i j l fun l => k (.fn g l)
  | x, k => k x
where dgrsK (i j : Nat) : List SV → (List SV → Prop) → Prop
  | [], k => k []
  | x :: xs, k => dgrK i j x fun x => dgrsK i j xs fun xs => k (x :: xs)
def dgrT (i j : Nat) : Tr SV → Tr SV
  | .nil => .nil
  | .node v l r => .node (dgr i j v) (dgrT i j l) (dgrT i j r)
def dgrB (i j : Nat) : Tr (Option (List SV)) → Tr (Option (List SV))
  | .nil => .nil
  | .node v l r => .node (v.map (dgr.dgrs i j)) (dgrB i j l) (dgrB i j r)
/-- is a type one of texts? -/
def strT : List (Nat × TI) → Nat → Bool
  | [], _ => false
  | (k, v) :: r, n => match Nat.beq k n with | true => v.str | false => strT r n
/-- what is appended: a row, or a text's bytes -/
def rowD (E : Env) (t : Nat × Nat) (y : SV) : SV := match Nat.beq t.1 t.2 with
  | true => y
  | false => match strT E.ty t.2 with
    | true => match y with
      | .val v => match v with
        | .string s => .row UInt8 1 byteC 0 s.data.toList
        | _ => .junk
      | _ => .junk
    | false => .junk
/-- A row grows: its row of places must be its own; what else named these places says less from now on. -/
def appK (E : Env) (d : Nat) (tu : Nat × Nat) (x y : SV) (s : ASt) (k : ASt → Prop) : Prop := force (rowD E tu y) fun y => tiK E.ty tu.1 fun t => match t.slice with
  | true => tiK E.ty t.elem fun u => match Nat.beq u.zero.length u.size with
    | true => match Nat.ble 1 u.size with
      | true => match Nat.ble 1 u.bytes with
        | true => ∃ (T : Type) (cs : T → List SV) (e : T) (l ys : List T) (id : Nat), (Sub x (.own T u.size cs e l id) ∧ Sub y (.row T u.size cs e ys)) ∧ (∀ x, allOk (cs x) = true) ∧
            (l.length + ys.length) * u.bytes ≤ 140737488355328 ∧ (dgrT id d s.fr).putK d (.own T u.size cs e (l ++ ys) d) fun fr => k ⟨fr, dgrB id d s.bx⟩
        | false => False
      | false => False
    | false => False
  | false => False

/-- an append: what grows, by what, the type -/
def isApp : Op → Option (Operand × Operand × Nat × Nat)
  | .call c => match c.callee with
    | .builtin b => match b with
      | .append => match c.args.toList with
        | [x, y] => match c.argTypes.toList with
          | [t, u] => some (x, y, t, u)
          | _ => none
        | _ => none
      | _ => none
    | _ => none
  | _ => none

/-- a row that may be written, out of nothing and a row's entries -/
def appV (E : Env) (d : Nat) (tu : Nat × Nat) (x y : SV) (s : ASt) (k : ASt → Prop) : Prop := match Nat.beq tu.1 tu.2 with
 | false => False
 | true => tiK E.ty tu.1 fun t => match t.slice with
  | true => tiK E.ty t.elem fun u => match Nat.beq u.zero.length u.size with
    | true => match Nat.ble 1 u.size with
      | true => match Nat.ble 1 u.bytes with
        | true => match Nat.blt d 1000 with
          | true => match s.bx.get d (some []) with
            | none => ∃ (T : Type) (cs : T → List SV) (e : T) (ys : List T), (Sub x .e0 ∧ Sub y (.row T u.size cs e ys)) ∧ (∀ x, (cs x).length = u.size ∧ imm.imms (cs x) = true ∧ allOk (cs x) = true) ∧
                ys.length * u.bytes ≤ 140737488355328 ∧ s.bx.putK d (some [.many T u.size cs e ys]) fun bx => s.fr.putK d (.arr d u.size 0 ys.length none) fun fr => k ⟨fr, bx⟩
            | some _ => False
          | false => False
        | false => False
      | false => False
    | false => False
  | false => False
/-- a row grows that has no room behind it -/
def appX (E : Env) (d : Nat) (tu : Nat × Nat) (b z o n : Nat) (c : Option Nat) (y : SV) (s : ASt) (k : ASt → Prop) : Prop := match Nat.beq tu.1 tu.2 with
 | false => False
 | true => tiK E.ty tu.1 fun t => match t.slice with
  | true => tiK E.ty t.elem fun u => match Nat.beq u.zero.length u.size with
    | true => match Nat.ble 1 u.size with
      | true => match Nat.ble 1 u.bytes with
        | true => match Nat.beq z u.size with
          | true => match s.bx.get b none with
            | some cs => manyK cs fun T sz cs e l => match Nat.beq z sz with
              | true => (∃ (ys : List T), (c = some n ∧ o + n ≤ l.length ∧ 0 < ys.length ∧ Sub y (.row T z cs e ys)) ∧ (n + ys.length) * u.bytes ≤ 140737488355328 ∧
                  (dgrT d d s.fr).putK d (.own T z cs e ((l.drop o).take n ++ ys) d) fun fr => k ⟨fr, dgrB d d s.bx⟩) ∨
                  (Sub y (.row T z cs e []) ∧ (dgrT d d s.fr).putK d (.arr b z o n c) fun fr => k ⟨fr, dgrB d d s.bx⟩)
              | false => False
            | none => False
          | false => False
        | false => False
      | false => False
    | false => False
  | false => False

def stepK (E : Env) (d : Nat) (op : Op) (s : ASt) (k : SV → ASt → Prop) : Prop := stepB E d op (ev s) s.bx fun v bx => k v ⟨s.fr, bx⟩

def dOf : Option Nat → Nat
  | some d => d
  | none => 0
/-- a call behind which the variables that it is handed are variables no more -/
def isFrz (bs : List Nat) (o : Oper) : Option Call := match o.dst with
  | some d => match vecD bs d with
    | true => match o.op with
      | .call c => match c.callee with
        | .value _ => some c
        | _ => none
      | _ => none
    | false => none
  | none => none
/-- values without some variables -/
def kill (tb : List Nat) : SV → SV
  | .box b o => match memN tb b with
    | true => .junk
    | false => .box b o
  | .arr b z o n c => match memN tb b with
    | true => .junk
    | false => .arr b z o n c
  | .plc b z i o => match memN tb b with
    | true => .junk
    | false => .plc b z i o
  | .agg l => .agg (kills tb l)
  | .tup l => .tup (kills tb l)
  | .fn g l => .fn g (kills tb l)
  | x => x
where kills (tb : List Nat) : List SV → List SV
  | [] => []
  | x :: xs => kill tb x :: kills tb xs
def killT (tb : List Nat) : Tr SV → Tr SV
  | .nil => .nil
  | .node v l r => .node (kill tb v) (killT tb l) (killT tb r)
def killB (tb : List Nat) : Tr (Option (List SV)) → Tr (Option (List SV))
  | .nil => .nil
  | .node v l r => .node (v.map (kill.kills tb)) (killB tb l) (killB tb r)
def dropB : List Nat → Tr (Option (List SV)) → Tr (Option (List SV))
  | [], bx => bx
  | b :: r, bx => dropB r (bx.put b none)
def keysT : List (Nat × List SV) → List Nat
  | [] => []
  | (b, _) :: r => b :: keysT r
def allLt : List Nat → Bool
  | [] => true
  | b :: r => match Nat.blt b 1000 with
    | true => allLt r
    | false => false
/-- the same, told at once -/
def killTK (tb : List Nat) : Tr SV → (Tr SV → Prop) → Prop
  | .nil, k => k .nil
  | .node v l r, k => force (kill tb v) fun v => killTK tb l fun l => killTK tb r fun r => k (.node v l r)
def killBK (tb : List Nat) : Tr (Option (List SV)) → (Tr (Option (List SV)) → Prop) → Prop
  | .nil, k => k .nil
  | .node v l r, k => match v with
    | none => killBK tb l fun l => killBK tb r fun r => k (.node none l r)
    | some cs => forceL (kill.kills tb cs) fun cs => killBK tb l fun l => killBK tb r fun r => k (.node (some cs) l r)
/-- a value whose rows may not grow any more -/
def bare (x : SV) : SV := nmW some (fun _ => none) x
def bareT : Tr SV → Tr SV
  | .nil => .nil
  | .node v l r => .node (bare v) (bareT l) (bareT r)
def bareB : Tr (Option (List SV)) → Tr (Option (List SV))
  | .nil => .nil
  | .node v l r => .node (v.map (nmW.nmsW some (fun _ => none))) (bareB l) (bareB r)
def bareTK : Tr SV → (Tr SV → Prop) → Prop
  | .nil, k => k .nil
  | .node v l r, k => force (bare v) fun v => bareTK l fun l => bareTK r fun r => k (.node v l r)
def bareBK : Tr (Option (List SV)) → (Tr (Option (List SV)) → Prop) → Prop
  | .nil, k => k .nil
  | .node v l r, k => match v with
    | none => bareBK l fun l => bareBK r fun r => k (.node none l r)
    | some cs => forceL (nmW.nmsW some (fun _ => none) cs) fun cs => bareBK l fun l => bareBK r fun r => k (.node (some cs) l r)
def namedW (f ow : Nat → Option Nat) : List (Nat × List SV) → List (List SV)
  | [] => []
  | (_, cs) :: r => nmW.nmsW f ow cs :: namedW f ow r
/-- a call of a function that changes variables, with rows of their own in them -/
def ownK (d : Nat) (c : CtrB) (l : List SV) (s : ASt) (k : ASt → Prop) : Prop :=
  seenK s.bx 8 (boxesOf.boxesOfs l []) [] fun σ => ∃ x : c.A, SubL (nmW.nmsW (nameN σ 1000) (ownA l σ) l) (c.enc x) ∧ subLL (namedW (nameN σ 1000) (ownA l σ) σ) (c.pre x) ∧ c.dom x ∧
    bareBK s.bx fun bx => backK (backN σ d 1000) d σ (c.post x d) bx fun bx => force (nmW (backN σ d 1000) some (c.res x d)) fun v => bareTK s.fr fun fr => fr.putK d v fun fr => k ⟨fr, bx⟩
def frzK (E : Env) (d : Nat) (c : Call) (s : ASt) (k : ASt → Prop) : Prop := match c.callee with
  | .value f => match ev s f with
    | .fn g caps => match E.ctr g with
      | some ct => forceL (c.args.toList.map (ev s) ++ caps) fun l => gatherK s.bx 6 (boxesOf.boxesOfs l []) [] fun tb => condsK (arrL.arrLs tb l (arrLT tb tb [])) (∃ x : ct.A, SubL (lendW.lendsW (lendB tb 3) (lendR tb) l) (ct.enc x) ∧ imm.imms (ct.enc x) = true ∧ ct.dom x ∧
          force (ct.res x d) fun v => match allLt (keysT tb) with
            | true => killTK (keysT tb) s.fr fun fr => fr.putK d v fun fr => killBK (keysT tb) (dropB (keysT tb) s.bx) fun bx => k ⟨fr, bx⟩
            | false => False)
      | none => match caps with
        | [] => match E.ctrB g with
          | some cb => forceL (c.args.toList.map (ev s)) fun l => ownK d cb l s k
          | none => False
        | _ => False
    | _ => False
  | _ => False
def gOf (all : List Oper) (j : Nat) : Option Nat := match at' (all.map some) j none with
  | some o => o.dst
  | none => none

/-- One operation, and what its temporary holds then. -/
def opK (E : Env) (o : Oper) (s : ASt) (k : ASt → Prop) : Prop := match isApp o.op with
  | none => match isFrz E.bs o with
    | none => stepK E (dOf o.dst) o.op s fun v s => setK o.dst v s.fr fun fr => k ⟨fr, s.bx⟩
    | some c => match o.dst with
      | some d => frzK E d c s k
      | none => False
  | some (x, y, t) => match o.dst with
    | some d => force (ev s x) fun x => force (ev s y) fun y => match vecD E.bs d with
      | true => appV E d t x y s k
      | false => match x with
        | .arr b z o n c => match hasVec E.bs with
          | true => appX E d t b z o n c y s k
          | false => False
        | x => appK E d t x y s k
    | none => False

/-- the same state, told at once -/
def norm (s : ASt) (k : ASt → Prop) : Prop := match s with
  | ⟨fr, bx⟩ => match fr with
    | .nil => match bx with
      | .nil => k ⟨.nil, .nil⟩
      | .node w a b => k ⟨.nil, .node w a b⟩
    | .node v l r => match bx with
      | .nil => k ⟨.node v l r, .nil⟩
      | .node w a b => k ⟨.node v l r, .node w a b⟩
theorem norm_eq (s : ASt) (k : ASt → Prop) : norm s k = k s := by
  obtain ⟨fr, bx⟩ := s
  cases fr <;> cases bx <;> rfl
/-- The operations of a region, in the text's order. -/
def axOps (E : Env) (all : List Oper) : List Oper → ASt → (ASt → Prop) → Prop
  | [], s, K => norm s K
  | o :: os, s, K => norm s fun s => match o.guard with
    | none => opK E o s fun s => axOps E all os s K
    | some (j, b) => match gOf all j with
      | none => False
      | some g => match s.fr.get g .junk with
        | .tt => match b with
          | true => opK E o s fun s => axOps E all os s K
          | false => setK o.dst (.val undef) s.fr fun fr => axOps E all os ⟨fr, s.bx⟩ K
        | .ff => match b with
          | false => opK E o s fun s => axOps E all os s K
          | true => setK o.dst (.val undef) s.fr fun fr => axOps E all os ⟨fr, s.bx⟩ K
        | .val v => match v with
          | .bool c =>
            (c = true → s.fr.putK g .tt fun gr => match b with
              | true => opK E o ⟨gr, s.bx⟩ fun s => axOps E all os s K
              | false => setK o.dst (.val undef) gr fun fr => axOps E all os ⟨fr, s.bx⟩ K) ∧
            (c = false → s.fr.putK g .ff fun gr => match b with
              | false => opK E o ⟨gr, s.bx⟩ fun s => axOps E all os s K
              | true => setK o.dst (.val undef) gr fun fr => axOps E all os ⟨fr, s.bx⟩ K)
          | .tuple _ => setK o.dst (.val undef) s.fr fun fr => axOps E all os ⟨fr, s.bx⟩ K
          | _ => False
        | _ => False

/-- an operation that turns what is known of such blocks -/
def isSide (bs : List Nat) (o : Oper) : Bool := match o.dst with
  | some d => memN bs (Nat.add 1200000 d)
  | none => match o.op with
    | .store _ x _ => match x with
      | .tmp t => memN bs (Nat.add 1300000 t)
      | _ => false
    | .mapUpdate _ _ _ _ => memN bs 1400000
    | _ => false
def sideCallee : Op → Option (Call × Nat)
  | .call c => match c.callee with
    | .value f => match f with
      | .func g => some (c, g)
      | _ => none
    | _ => none
  | _ => none
def sideStep (E : Env) (o : Oper) (s : ASt) (k : ASt → Prop) : Prop := match s.bx.get 9999 none with
  | none => False
  | some cs => match sideCallee o.op with
    | some (c, g) => match E.ctrX g with
      | none => False
      | some cx => forceL (c.args.toList.map (ev s)) fun l => gatherK s.bx 6 (boxesOf.boxesOfs l []) [] fun tb => condsK (arrL.arrLs tb l (arrLT tb tb []))
          (∃ x : cx.A, SubL (lendW.lendsW (lendB tb 3) (lendR tb) l) (cx.enc x) ∧ imm.imms (cx.enc x) = true ∧ cx.dom x ∧ cs = sideB (cx.pre x) ∧ ∀ u : cx.O, force (cx.res x u) fun v => match scal v with
            | true => s.bx.putK 9999 (some (sideB (cx.post x u))) fun bx => setK o.dst v s.fr fun fr => k ⟨fr, bx⟩
            | false => False)
    | none => ∃ (X : Side) (O : Type) (Y : O → Side) (r : O → SV), cs = sideB X ∧ E.opx o (ev s) X O Y r ∧ ∀ u : O, force (r u) fun v => s.bx.putK 9999 (some (sideB (Y u))) fun bx => setK o.dst v s.fr fun fr => k ⟨fr, bx⟩
def stepX (E : Env) (o : Oper) (s : ASt) (k : ASt → Prop) : Prop := match isSide E.bs o with
  | true => sideStep E o s k
  | false => opK E o s k
/-- The operations of a region with such ones among them, in the text's order. -/
def axOpsX (E : Env) (all : List Oper) : List Oper → ASt → (ASt → Prop) → Prop
  | [], s, K => norm s K
  | o :: os, s, K => norm s fun s => match o.guard with
    | none => stepX E o s fun s => axOpsX E all os s K
    | some (j, b) => match gOf all j with
      | none => False
      | some g => match s.fr.get g .junk with
        | .tt => match b with
          | true => stepX E o s fun s => axOpsX E all os s K
          | false => setK o.dst (.val undef) s.fr fun fr => axOpsX E all os ⟨fr, s.bx⟩ K
        | .ff => match b with
          | false => stepX E o s fun s => axOpsX E all os s K
          | true => setK o.dst (.val undef) s.fr fun fr => axOpsX E all os ⟨fr, s.bx⟩ K
        | .val v => match v with
          | .bool c =>
            (c = true → s.fr.putK g .tt fun gr => match b with
              | true => stepX E o ⟨gr, s.bx⟩ fun s => axOpsX E all os s K
              | false => setK o.dst (.val undef) gr fun fr => axOpsX E all os ⟨fr, s.bx⟩ K) ∧
            (c = false → s.fr.putK g .ff fun gr => match b with
              | false => stepX E o ⟨gr, s.bx⟩ fun s => axOpsX E all os s K
              | true => setK o.dst (.val undef) gr fun fr => axOpsX E all os ⟨fr, s.bx⟩ K)
          | .tuple _ => setK o.dst (.val undef) s.fr fun fr => axOpsX E all os ⟨fr, s.bx⟩ K
          | _ => False
        | _ => False

inductive Ex where
  | normal
  | exit (n : Nat)
  | ret

def WeakL : List SV → List SV → Prop
  | [], [] => True
  | x :: xs, y :: ys => match y with
    | .junk => WeakL xs ys
    | y => Sub x y ∧ WeakL xs ys
  | _, _ => False
/-- does a value name a box that is not there? -/
def refOk (bx : Tr (Option (List SV))) : SV → Bool
  | .box b _ => match bx.get b none with | some _ => true | none => false
  | .arr b _ _ _ _ => match bx.get b none with | some _ => true | none => false
  | .plc b _ _ _ => match bx.get b none with | some _ => true | none => false
  | .agg l => refOks bx l
  | .tup l => refOks bx l
  | .fn _ l => refOks bx l
  | _ => true
where refOks (bx : Tr (Option (List SV))) : List SV → Bool
  | [] => true
  | x :: xs => match refOk bx x with | true => refOks bx xs | false => false
def refOkT (bx : Tr (Option (List SV))) : Tr SV → Bool
  | .nil => true
  | .node v l r => match refOk bx v with
    | true => match refOkT bx l with | true => refOkT bx r | false => false
    | false => false
def refOkB (bx : Tr (Option (List SV))) : Tr (Option (List SV)) → Bool
  | .nil => true
  | .node v l r => match (match v with | none => true | some cs => refOk.refOks bx cs) with
    | true => match refOkB bx l with | true => refOkB bx r | false => false
    | false => false
def weakT : Tr SV → Tr SV → Prop → Prop
  | .nil, .nil, k => k
  | .node v l r, .node v' l' r', k => match v' with
    | .junk => weakT l l' (weakT r r' k)
    | v' => Sub v v' ∧ weakT l l' (weakT r r' k)
  | _, _, _ => False
def weakB : Tr (Option (List SV)) → Tr (Option (List SV)) → Prop → Prop
  | .nil, .nil, k => k
  | .node v l r, .node v' l' r', k => match v' with
    | none => weakB l l' (weakB r r' k)
    | some ct => match v with
      | some cs => match isMany cs with
        | true => match isMany ct with
          | true => WeakL cs ct ∧ weakB l l' (weakB r r' k)
          | false => False
        | false => match isMany ct with
          | true => False
          | false => WeakL cs ct ∧ weakB l l' (weakB r r' k)
      | none => manyK ct fun T sz c d q => (q = [] ∧ (0 < sz ∧ sz < 7777) ∧ ∀ x, (c x).length = sz ∧ imm.imms (c x) = true ∧ allOk (c x) = true) ∧ weakB l l' (weakB r r' k)
  | _, _, _ => False
/-- a state for another one that says more -/
def Weak (s t : ASt) : Prop := (refOkT t.bx t.fr = true ∧ refOkB t.bx t.bx = true) ∧ weakT s.fr t.fr (weakB s.bx t.bx True)

/-- the temporaries that an operation looks at; that its guard does -/
def tmpsIn (op : Op) : List Nat := op.operands.toList.filterMap fun | .tmp t => some t | _ => none
def gIn (all : List Oper) (o : Oper) : List Nat := match o.guard with
  | some (j, _) => (gOf all j).toList
  | none => []
def memR : Op → Bool
  | .load _ _ => true
  | .call c => match c.callee with | .value _ => true | _ => false
  | _ => false
def memW (bs : List Nat) (d : Nat) : Op → Bool
  | .alloc _ => true
  | .box _ _ => true
  | .store _ _ _ => true
  | .call c => match isClear c.callee with
    | true => true
    | false => match bcall bs c.callee with
      | some _ => true
      | none => false
  | .buildSlice _ _ _ => vecD bs d
  | .makeSlice _ _ _ => true
  | _ => false
/-- what makes a variable -/
def memA : Op → Bool
  | .alloc _ => true
  | .box _ _ => true
  | .makeSlice _ _ _ => true
  | _ => false
/-- what an append may overtake -/
def easy : Op → Bool
  | .move (.tmp _) => true
  | .fieldAddr _ (.tmp _) _ => true
  | .load _ (.tmp _) => true
  | _ => false
def allConst : List (Nat × Operand) → Bool
  | [] => true
  | (_, .const _) :: r => allConst r
  | _ => false
/-- a literal of constants that is read alone -/
def isLit (bs : List Nat) (d : Nat) : Op → Bool
  | .buildSlice _ _ parts => allConst parts.toList && memN bs (Nat.add 800000 d) && !vecD bs d
  | _ => false
def easyL (bs : List Nat) (o : Oper) : Bool := easy o.op || isLit bs (dOf o.dst) o.op
def isBC (bs : List Nat) : Op → Bool
  | .call c => match isClear c.callee with
    | true => false
    | false => match bcall bs c.callee with
      | some _ => true
      | none => false
  | _ => false
/-- what changes variables, and a load that it does not reach -/
def qp (bs : List Nat) (x y : Op) : Bool := (isBC bs x && isQL bs y) || (isSS bs x && isSL bs y)
/-- two guards are one -/
def sameG : Option (Nat × Bool) → Option (Nat × Bool) → Bool
  | none, none => true
  | some (i, b), some (j, c) => Nat.beq i j && (b == c)
  | _, _ => false
/-- two operations that may come in either order -/
def indep (bs : List Nat) (all : List Oper) (x y : Oper) : Bool :=
  (match x.dst with | some d => !(tmpsIn y.op).contains d && !(gIn all y).contains d && y.dst != some d | none => true) &&
  (match y.dst with | some d => !(tmpsIn x.op).contains d && !(gIn all x).contains d | none => true) &&
  ((gIn all x).all fun g => !(tmpsIn y.op).contains g) && ((gIn all y).all fun g => !(tmpsIn x.op).contains g) &&
  !(memW bs (dOf x.dst) x.op && (memR y.op || memW bs (dOf y.dst) y.op) && !(qp bs x.op y.op)) && !(memW bs (dOf y.dst) y.op && memR x.op && !memA y.op && !(qp bs y.op x.op)) && (match (isApp x.op).isNone with
    | true => (isApp y.op).isNone || (easyL bs x && sameG x.guard y.guard && !vecD bs (dOf y.dst))
    | false => (isApp y.op).isNone && (easyL bs y && sameG x.guard y.guard && !vecD bs (dOf x.dst))) &&
  (isFrz bs x).isNone && (isFrz bs y).isNone
def preds (o : Oper) : List Nat := o.after.toList.filterMap fun e => if Region.binds .any e then some e.on else none
def maskOf (B : List Nat) (o : Oper) : Nat := (preds o).foldl (fun s p => s ||| (2 ^ p ||| B.getD p 0)) 0
def masks : List Oper → List Nat → List Nat
  | [], acc => acc
  | o :: os, acc => masks os (acc ++ [maskOf acc o])
def orderOkB (bs : List Nat) (ops : List Oper) (B : List Nat) : Bool :=
  (List.range ops.length).all fun i => match ops[i]? with
    | none => false
    | some o => (preds o).all (fun p => Nat.blt p i) && B.getD i 0 == maskOf B o &&
      (List.range i).all fun j => match ops[j]? with
        | none => false
        | some x => (B.getD i 0).testBit j || indep bs ops x o
def orderOk (bs : List Nat) (ops : List Oper) : Bool := orderOkB bs ops (masks ops [])

/-- a state of one shape with s, of which this is known -/
def blank : Tr SV → Tr SV
  | .nil => .nil
  | .node _ l r => .node .junk (blank l) (blank r)
def blankK : Tr SV → (Tr SV → Prop) → Prop
  | .nil, k => k .nil
  | .node _ l r, k => blankK l fun l => blankK r fun r => k (.node .junk l r)
def blankB : Tr (Option (List SV)) → Tr (Option (List SV))
  | .nil => .nil
  | .node _ l r => .node none (blankB l) (blankB r)
def blankBK : Tr (Option (List SV)) → (Tr (Option (List SV)) → Prop) → Prop
  | .nil, k => k .nil
  | .node _ l r, k => blankBK l fun l => blankBK r fun r => k (.node none l r)
def puts : List (Nat × SV) → Tr SV → Tr SV
  | [], t => t
  | (i, v) :: r, t => puts r (t.put i v)
def putsK : List (Nat × SV) → Tr SV → (Tr SV → Prop) → Prop
  | [], t, k => k t
  | (i, v) :: r, t, k => force v fun v => t.putK i v fun t => putsK r t k
def putsB : List (Nat × List SV) → Tr (Option (List SV)) → Tr (Option (List SV))
  | [], t => t
  | (i, cs) :: r, t => putsB r (t.put i (some cs))
def putsBK : List (Nat × List SV) → Tr (Option (List SV)) → (Tr (Option (List SV)) → Prop) → Prop
  | [], t, k => k t
  | (i, cs) :: r, t, k => forceL cs fun cs => t.putK i (some cs) fun t => putsBK r t k
def stOf (s : ASt) (f : List (Nat × SV)) (b : List (Nat × List SV)) : ASt := ⟨puts f (blank s.fr), putsB b (blankB s.bx)⟩
def stK (s : ASt) (f : List (Nat × SV)) (b : List (Nat × List SV)) (k : ASt → Prop) : Prop :=
  blankK s.fr fun fr => putsK f fr fun fr => blankBK s.bx fun bx => putsBK b bx fun bx => k ⟨fr, bx⟩

/-- the number of the region with which a piece of code begins -/
def firstR : Code → Nat
  | .region n _ _ => n
  | .seq a _ => firstR a
  | .block _ a => firstR a
  | .loop a => firstR a
  | .ret => 99998
  | _ => 99999
/-- whether a state of one's own choice stands ahead of this code -/
def cutAt (bs : List Nat) (c : Code) : Bool := match bs with
  | [] => false
  | _ :: _ => memN bs (Nat.add 900000 (firstR c))

/-- What a piece of code comes to. -/
def ax (E : Env) : Code → ASt → (Ex → ASt → Prop) → Prop
  | .skip, s, K => K .normal s
  | .region _ ops draw, s, K => match draw with
    | true => orderOk E.bs ops.toList = true ∧ axOps E ops.toList ops.toList s (K .normal)
    | false => match E.sd with
      | false => axOps E ops.toList ops.toList s (K .normal)
      | true => axOpsX E ops.toList ops.toList s (K .normal)
  | .seq a b, s, K => match cutAt E.bs b with
    | false => ax E a s fun e s' => match e with
      | .normal => ax E b s' K
      | e => K e s'
    | true => ∃ (A : Type) (fs : A → List (Nat × SV)) (bs : A → List (Nat × List SV)) (inv : A → Prop), (ax E a s fun e s' => match e with
        | .normal => ∃ y, inv y ∧ stK s (fs y) (bs y) fun t => Weak s' t
        | e => K e s') ∧
      ∀ x, inv x → stK s (fs x) (bs x) fun t => ax E b t K
  | .cond c a b, s, K => match ev s c with
    | .tt => ax E a s K
    | .ff => ax E b s K
    | .val v => match v with
      | .bool t => (t = true → ax E a s K) ∧ (t = false → ax E b s K)
      | _ => False
    | .nb Q => (Q true → ax E a s K) ∧ (Q false → ax E b s K)
    | _ => False
  | .block id a, s, K => ax E a s fun e s' => match e with
    | .exit m => match Nat.beq m id with | true => K .normal s' | false => K (.exit m) s'
    | e => K e s'
  | .loop c, s, K => ∃ (A : Type) (fs : A → List (Nat × SV)) (bs : A → List (Nat × List SV)) (inv : A → Prop) (μ : A → Nat), (∃ x, inv x ∧ stK s (fs x) (bs x) fun t => Weak s t) ∧
      ∀ x, inv x → stK s (fs x) (bs x) fun t => ax E c t fun e s' => match e with
        | .normal => ∃ y, inv y ∧ μ y < μ x ∧ stK s (fs y) (bs y) fun t => Weak s' t
        | e => K e s'
  | .exit m, s, K => K (.exit m) s
  | .ret, s, K => K .ret s
  | _, _, _ => False
end Go.Proofs.Yteccinlmblijfaa.Ax
/- What the logic's words mean in memory: values, sealed cells, boxes, room behind a row. -/
set_option linter.unusedVariables false
set_option linter.unusedSimpArgs false
namespace Go.Proofs.Yteccinlmblijfaa.Ax
open Go

abbrev HM := Nat → Nat → Option Value
abbrev BM := Nat → Option Nat
abbrev TM := Nat → Nat → Option Nat
def noB : BM := fun _ => none
def noT : TM := fun _ _ => none

/-- A value in memory is what a symbolic value says. H: cells that stay as they are; β: the boxes' blocks; T: room behind rows. -/
inductive G (H : HM) : BM → TM → SV → Value → Prop
  | val {β T} (v) : G H β T (.val v) v
  | tt {β T} : G H β T .tt (.bool true)
  | ff {β T} : G H β T .ff (.bool false)
  | junk {β T} (v) : G H β T .junk v
  | nb {β T} (Q : Bool → Prop) (b) (h : Q b) : G H β T (.nb Q) (.bool b)
  | rowE {β T} (X sz cs d a c) : G H β T (.row X sz cs d []) (.slice a 0 c)
  | row {β T} (X sz cs d l b off c) (vs : Nat → Nat → Value) (hc : l.length ≤ c)
      (hz : ∀ i, i < l.length → (cs (l.getD i d)).length = sz)
      (hH : ∀ i j, i < l.length → j < sz → H b (off + i * sz + j) = some (vs i j))
      (hG : ∀ i j, i < l.length → j < sz → G H noB noT (at' (cs (l.getD i d)) j .junk) (vs i j)) :
      G H β T (.row X sz cs d l) (.slice (some ⟨b, off, none⟩) l.length c)
  | ownE {β T} (X sz cs d id a) : G H β T (.own X sz cs d [] id) (.slice a 0 0)
  | own {β T} (X sz cs d l id b off c) (vs : Nat → Nat → Value) (hc : l.length ≤ c)
      (hz : ∀ i, i < l.length → (cs (l.getD i d)).length = sz)
      (hH : ∀ i j, i < l.length → j < sz → H b (off + i * sz + j) = some (vs i j))
      (hG : ∀ i j, i < l.length → j < sz → G H noB noT (at' (cs (l.getD i d)) j .junk) (vs i j))
      (hT : ∀ o, off + l.length * sz ≤ o → o < off + c * sz → T b o = some id) :
      G H β T (.own X sz cs d l id) (.slice (some ⟨b, off, none⟩) l.length c)
  | elt {β T} (X sz cs d l i o b p) (vs : Nat → Value)
      (hz : (cs (l.getD i.toNat d)).length = sz)
      (hH : ∀ j, j < sz → H b (p + j) = some (vs j))
      (hG : ∀ j, j < sz → G H noB noT (at' (cs (l.getD i.toNat d)) j .junk) (vs j)) :
      G H β T (.elt X sz cs d l i o) (.pointer (some ⟨b, p + o, none⟩))
  | box {β T} (b o k) (h : β b = some k) : G H β T (.box b o) (.pointer (some ⟨k, o, none⟩))
  | arr {β T} (b z o n cap k c) (h : β b = some k) (hc : n ≤ c) (he : ∀ c', cap = some c' → c = c') : G H β T (.arr b z o n cap) (.slice (some ⟨k, o * z, none⟩) n c)
  | arrE {β T} (b z o a c) : G H β T (.arr b z o 0 none) (.slice a 0 c)
  | plc {β T} (b z i o k) (hi : 0 ≤ i) (h : β b = some k) : G H β T (.plc b z i o) (.pointer (some ⟨k, i.toNat * z + o, none⟩))
  | ifc {β T} (t v) : G H β T .ifc (.iface t v)
  | e0 {β T} (a) : G H β T .e0 (.slice a 0 0)
  | agg {β T} (l) (vs : Array Value) (hn : vs.size = l.length) (h : ∀ j, j < l.length → G H β T (at' l j .junk) (vs.getD j undef)) :
      G H β T (.agg l) (.agg vs)
  | tup {β T} (l) (vs : Array Value) (hn : vs.size = l.length) (h : ∀ j, j < l.length → G H β T (at' l j .junk) (vs.getD j undef)) :
      G H β T (.tup l) (.tuple vs)
  | fn {β T} (g l) (vs : Array Value) (hn : vs.size = l.length) (h : ∀ j, j < l.length → G H β T (at' l j .junk) (vs.getD j undef)) :
      G H β T (.fn g l) (.func (.func g) #[] vs)

def HLe (H H' : HM) : Prop := ∀ b o v, H b o = some v → H' b o = some v
def BLe (β β' : BM) : Prop := ∀ b k, β b = some k → β' b = some k
def TLe (T T' : TM) : Prop := ∀ b o i, T b o = some i → T' b o = some i
theorem HLe.refl (H : HM) : HLe H H := fun _ _ _ h => h
theorem HLe.trans {a b c : HM} (h : HLe a b) (k : HLe b c) : HLe a c := fun _ _ _ e => k _ _ _ (h _ _ _ e)
theorem BLe.refl (β : BM) : BLe β β := fun _ _ h => h
theorem TLe.refl (T : TM) : TLe T T := fun _ _ _ h => h

theorem G.mono {H H' : HM} (hH : HLe H H') {β : BM} {T : TM} {s : SV} {v : Value} (h : G H β T s v) :
    ∀ {β' : BM} {T' : TM}, BLe β β' → TLe T T' → G H' β' T' s v := by
  induction h with
  | val v => intros; exact .val v
  | tt => intros; exact .tt
  | ff => intros; exact .ff
  | junk v => intros; exact .junk v
  | nb Q b h => intros; exact .nb Q b h
  | rowE => intros; exact .rowE ..
  | row X sz cs d l b off c vs hc hz hh hg ih =>
    intros
    exact .row X sz cs d l b off c vs hc hz (fun i j a e => hH _ _ _ (hh i j a e)) (fun i j a e => ih i j a e (.refl _) (.refl _))
  | ownE => intros; exact .ownE ..
  | own X sz cs d l id b off c vs hc hz hh hg hT ih =>
    intro β' T' hb ht
    exact .own X sz cs d l id b off c vs hc hz (fun i j a e => hH _ _ _ (hh i j a e)) (fun i j a e => ih i j a e (.refl _) (.refl _)) (fun o a e => ht _ _ _ (hT o a e))
  | elt X sz cs d l i o b p vs hz hh hg ih =>
    intros
    exact .elt X sz cs d l i o b p vs hz (fun j e => hH _ _ _ (hh j e)) (fun j e => ih j e (.refl _) (.refl _))
  | box b o k h => intro β' T' hb ht; exact .box b o k (hb _ _ h)
  | arr b z o n cap k c h hc he => intro β' T' hb ht; exact .arr b z o n cap k c (hb _ _ h) hc he
  | arrE b z o a c => intros; exact .arrE ..
  | plc b z i o k hi h => intro β' T' hb ht; exact .plc b z i o k hi (hb _ _ h)
  | ifc t v => intros; exact .ifc t v
  | e0 a => intros; exact .e0 a
  | agg l vs hn h ih => intro β' T' hb ht; exact .agg l vs hn fun j e => ih j e hb ht
  | tup l vs hn h ih => intro β' T' hb ht; exact .tup l vs hn fun j e => ih j e hb ht
  | fn g l vs hn h ih => intro β' T' hb ht; exact .fn g l vs hn fun j e => ih j e hb ht

theorem imms_at {l : List SV} (h : imm.imms l = true) : ∀ j, j < l.length → imm (at' l j .junk) = true := by
  induction l with
  | nil => intro j hj; simp at hj
  | cons x xs ih =>
    intro j hj
    unfold imm.imms at h
    cases hx : imm x with
    | false => rw [hx] at h; simp at h
    | true =>
      rw [hx] at h
      cases j with
      | zero => exact hx
      | succ j => exact ih h j (by simpa using hj)

/-- what names no box and may not grow hangs on the sealed cells alone -/
theorem G.imm {H : HM} {β : BM} {T : TM} {s : SV} {v : Value} (h : G H β T s v) :
    imm s = true → ∀ (β' : BM) (T' : TM), G H β' T' s v := by
  induction h with
  | val v => intros; exact .val v
  | tt => intros; exact .tt
  | ff => intros; exact .ff
  | junk v => intros; exact .junk v
  | nb Q b h => intros; exact .nb Q b h
  | rowE => intros; exact .rowE ..
  | row X sz cs d l b off c vs hc hz hh hg ih =>
    intros
    exact .row X sz cs d l b off c vs hc hz hh hg
  | ownE => intro hi; simp [Ax.imm] at hi
  | own X sz cs d l id b off c vs hc hz hh hg hT ih => intro hi; simp [Ax.imm] at hi
  | elt X sz cs d l i o b p vs hz hh hg ih => intros; exact .elt X sz cs d l i o b p vs hz hh hg
  | box b o k h => intro hi; simp [Ax.imm] at hi
  | arr b z o n cap k c h hc he => intro hi; simp [Ax.imm] at hi
  | arrE b z o a c => intro hi; simp [Ax.imm] at hi
  | plc b z i o k hi' h => intro hi; simp [Ax.imm] at hi
  | ifc t v => intros; exact .ifc t v
  | e0 a => intros; exact .e0 a
  | agg l vs hn h ih => intro hi β' T'; exact .agg l vs hn fun j e => ih j e (imms_at (by simpa [Ax.imm] using hi) j e) β' T'
  | tup l vs hn h ih => intro hi β' T'; exact .tup l vs hn fun j e => ih j e (imms_at (by simpa [Ax.imm] using hi) j e) β' T'
  | fn g l vs hn h ih => intro hi β' T'; exact .fn g l vs hn fun j e => ih j e (imms_at (by simpa [Ax.imm] using hi) j e) β' T'

theorem G.sub {H : HM} {x y : SV} (hs : Sub x y) : ∀ {β : BM} {T : TM} {v : Value}, G H β T x v → G H β T y v := by
  induction hs with
  | refl x => intro β T v h; exact h
  | junk x => intros; exact .junk _
  | own X sz cs d l id =>
    intro β T v h
    cases h with
    | ownE => exact .rowE ..
    | own _ _ _ _ _ _ b off c vs hc hz hh hg hT => exact .row X sz cs d l b off c vs hc hz hh hg
  | nil X sz cs d => intro β T v h; cases h; exact .rowE ..
  | nilO X sz cs d id => intro β T v h; cases h; exact .ownE ..
  | e0 X sz cs d => intro β T v h; cases h; exact .rowE ..
  | e0O X sz cs d id => intro β T v h; cases h; exact .ownE ..
  | nil0 => intro β T v h; cases h; exact .e0 _
  | nilA b z o => intro β T v h; cases h; exact .arrE ..
  | cap b z o n c =>
    intro β T v h
    cases h with
    | arr _ _ _ _ _ k c' h hc he => exact .arr b z o n none k c' h hc (fun _ e => by cases e)
    | arrE => exact .arrE ..
  | tt => intro β T v h; cases h; exact .val _
  | ff => intro β T v h; cases h; exact .val _
  | tt' => intro β T v h; cases h; exact .tt
  | ff' => intro β T v h; cases h; exact .ff
  | agg a b hl hs ih =>
    intro β T v h
    cases h with
    | agg _ vs hn h => exact .agg b vs (hn.trans hl) fun j e => ih j (by omega) (h j (by omega))
  | tup a b hl hs ih =>
    intro β T v h
    cases h with
    | tup _ vs hn h => exact .tup b vs (hn.trans hl) fun j e => ih j (by omega) (h j (by omega))

theorem xlen_plain {cs : List SV} (h : plain cs = true) : xlen cs = cs.length ∧ 0 < cs.length := by
  match cs with
  | [] => simp [plain] at h
  | [c] => cases c <;> first | exact ⟨rfl, by simp⟩ | (simp [plain] at h)
  | a :: b :: r => exact ⟨by cases a <;> rfl, by simp⟩
theorem xat_plain {cs : List SV} (h : plain cs = true) (j : Nat) : xat cs j = at' cs j .junk := by
  match cs with
  | [] => simp [plain] at h
  | [c] => cases c <;> first | rfl | (simp [plain] at h)
  | a :: b :: r => cases a <;> rfl
/-- what is no row of places -/
theorem xlen_not {cs : List SV} (h : isMany cs = false) : xlen cs = cs.length := by
  match cs with
  | [] => rfl
  | [c] => cases c <;> first | rfl | (simp [isMany] at h)
  | a :: b :: r => cases a <;> rfl
theorem xat_not {cs : List SV} (h : isMany cs = false) (j : Nat) : xat cs j = at' cs j .junk := by
  match cs with
  | [] => rfl
  | [c] => cases c <;> first | rfl | (simp [isMany] at h)
  | a :: b :: r => cases a <;> rfl
theorem manyK_elim {cs : List SV} {k : (T : Type) → Nat → (T → List SV) → T → List T → Prop} (h : manyK cs k) : ∃ T sz c d l, cs = [.many T sz c d l] ∧ k T sz c d l := by
  match cs with
  | [] => exact h.elim
  | [c] => cases c <;> first | exact ⟨_, _, _, _, _, rfl, h⟩ | exact h.elim
  | a :: b :: r => cases a <;> exact h.elim

/-- all but these blocks are as they were -/
structure Keeps (M : BM) (w0 w : World) : Prop where
  os : w.os = w0.os
  tape : w.tape = w0.tape
  output : w.output = w0.output
  size : w0.heap.size ≤ w.heap.size
  block : ∀ k, k < w0.heap.size → ¬ (∃ i, M i = some k) → w.heap[k]? = w0.heap[k]?
  shape : ∀ k, k < w0.heap.size → w.shape? k = w0.shape? k
def Mine (M : BM) (w0 : World) (k : Nat) : Prop := (∃ i, M i = some k) ∨ w0.heap.size ≤ k

/-- a block that holds room of one's own: a new one, or one whose room was handed in (named from 10000 on) -/
def Room (M : BM) (w0 : World) (b : Nat) : Prop := (∃ i, 10000 ≤ i ∧ M i = some b) ∨ w0.heap.size ≤ b
theorem Room.mine {M : BM} {w0 : World} {b : Nat} (h : Room M w0 b) : Mine M w0 b := h.elim (fun ⟨i, _, e⟩ => .inl ⟨i, e⟩) .inr
theorem Room.noB {w0 : World} {b : Nat} (h : Room noB w0 b) : w0.heap.size ≤ b := h.elim (fun ⟨_, _, e⟩ => by cases e) (fun e => e)
theorem noRoom {b : Nat} {X : Prop} (h : (∃ i, 10000 ≤ i ∧ Ax.noB i = some b) ∨ X) : X := h.elim (fun ⟨_, _, e⟩ => by cases e) (fun e => e)
/-- what of a block is frozen lies behind its cells -/
def Edge (w : World) (k : Nat) : Prop := k < w.heap.size ∧ ∀ c e lo hi, w.heap[k]? = some (.cells c e (lo, hi)) → lo = hi ∨ c.size ≤ lo
/-- what is known of such blocks, in memory -/
def SideOk (M : BM) (w0 : World) (H : HM) (β : BM) (T : TM) (X : Side) (w : World) : Prop :=
  X.holds w ∧ ∀ k, X.blk k → (∀ i, β i ≠ some k) ∧ (∀ o, H k o = none ∧ T k o = none) ∧ Room M w0 k
theorem SideOk.of {M : BM} {w0 : World} {H H' : HM} {β β' : BM} {T T' : TM} {X : Side} {w w' : World} (h : SideOk M w0 H β T X w) (hh : ∀ k, k < w.heap.size → X.blk k → w'.heap[k]? = w.heap[k]?)
    (hr : ∀ k, k < w.heap.size → X.blk k → (∀ i, β' i ≠ some k) ∧ (∀ o, H' k o = none ∧ T' k o = none)) : SideOk M w0 H' β' T' X w' := by
  have hl := X.inw w h.1
  exact ⟨X.loc _ _ (fun k hk => hh k (hl k hk) hk) h.1, fun k hk => ⟨(hr k (hl k hk) hk).1, (hr k (hl k hk) hk).2, (h.2 k hk).2.2⟩⟩
theorem SideOk.world {M : BM} {w0 : World} {H : HM} {β : BM} {T : TM} {X : Side} {w w' : World} (h : SideOk M w0 H β T X w) (hh : ∀ k, k < w.heap.size → X.blk k → w'.heap[k]? = w.heap[k]?) : SideOk M w0 H β T X w' :=
  h.of hh (fun k _ hk => ⟨(h.2 k hk).1, (h.2 k hk).2.1⟩)
structure W (M : BM) (w0 : World) (H0 H : HM) (β : BM) (T : TM) (bx : Tr (Option (List SV))) (w : World) : Prop where
  lies : ∀ b o v, H b o = some v → w.cell? ⟨b, o, none⟩ = some v ∧ T b o = none
  box : ∀ id cs, bx.get id none = some cs → 0 < xlen cs → ∃ k, β id = some k ∧ Mine M w0 k ∧ ∀ j, j < xlen cs →
    H k j = none ∧ T k j = none ∧ w.frozen? ⟨k, j, none⟩ = false ∧ ∃ v, w.cell? ⟨k, j, none⟩ = some v ∧ G H β T (xat cs j) v
  bβ : ∀ id k, β id = some k → k < w.heap.size ∧ ∃ cs, bx.get id none = some cs
  inj : ∀ i j k, β i = some k → β j = some k → i = j
  tail : ∀ b o id, T b o = some id → Room M w0 b ∧ (w.cell? ⟨b, o, none⟩).isSome = true ∧ w.frozen? ⟨b, o, none⟩ = false
  sep : ∀ b o id, T b o = some id → ∀ i, β i ≠ some b
  hand : ∀ i k, M i = some k → 1000 ≤ i ∧ ∀ k', β i = some k' → k' = k
  many : ∀ id X sz cs d l, bx.get id none = some [.many X sz cs d l] → 0 < sz ∧ ∀ x, (cs x).length = sz ∧ imm.imms (cs x) = true ∧ allOk (cs x) = true
  mine : ∀ id k, β id = some k → Mine M w0 k ∧ (id < 1000 → w0.heap.size ≤ k)
  out : ∀ i, 1000 ≤ i → M i = none → β i = none
  keep : Keeps M w0 w
  ext : HLe H0 H
  fresh : ∀ b o, b < w0.heap.size → (∃ i, 10000 ≤ i ∧ M i = some b) ∨ H b o = H0 b o
  edge : ∀ k, (∃ i, β i = some k ∨ (i < 10000 ∧ M i = some k ∧ k < w0.heap.size ∧ ∀ j, 10000 ≤ j → M j ≠ some k)) → Edge w k
  side : ∀ X, bx.get 9999 none = some (sideB X) → SideOk M w0 H β T X w

structure FR (H : HM) (β : BM) (T : TM) (fr : Tr SV) (a : Act) : Prop where
  size : ∀ j, fr.has j = true → j < a.tmps.size
  defers : a.defers = []
  val : ∀ j, G H β T (fr.get j .junk) (a.tmps.getD j undef)

def Rel (M : BM) (w0 : World) (H0 : HM) (s : ASt) (a : Act) (w : World) : Prop :=
  ∃ H β T, FR H β T s.fr a ∧ W M w0 H0 H β T s.bx w
end Go.Proofs.Yteccinlmblijfaa.Ax
/- The logic's operations are right: lists, frames, and what each operation does in memory. -/
set_option linter.unusedVariables false
set_option linter.unusedSimpArgs false
namespace Go.Proofs.Yteccinlmblijfaa.Ax
open Go Go.RowKit

/-! ### 1. Lists -/
theorem at'_ge {α : Type _} : ∀ (l : List α) (j : Nat) (d : α), l.length ≤ j → at' l j d = d
  | [], _, _, _ => rfl
  | x :: xs, 0, d, h => by simp at h
  | x :: xs, j + 1, d, h => at'_ge xs j d (by simpa using h)
theorem at'_get {α : Type _} : ∀ (l : List α) (j : Nat) (d : α) (h : j < l.length), at' l j d = l[j]
  | [], j, _, h => by simp at h
  | x :: xs, 0, d, h => rfl
  | x :: xs, j + 1, d, h => by simpa [at'] using at'_get xs j d (by simpa using h)
theorem Tr.half (i : Nat) : (Nat.mod i 2 = 0 ∧ i = 2 * Nat.div i 2) ∨ (Nat.mod i 2 = 1 ∧ i = 2 * Nat.div i 2 + 1) := by
  show (i % 2 = 0 ∧ i = 2 * (i / 2)) ∨ (i % 2 = 1 ∧ i = 2 * (i / 2) + 1)
  omega
theorem Tr.get_out {α : Type _} : ∀ (t : Tr α) (j : Nat) (d : α), t.has j = false → t.get j d = d
  | .nil, _, _, _ => rfl
  | .node v l r, 0, d, h => by simp [Tr.has] at h
  | .node v l r, j + 1, d, h => by
    simp only [Tr.has, Tr.get] at h ⊢
    rcases Tr.half j with ⟨e, -⟩ | ⟨e, -⟩
    · rw [e] at h ⊢; exact Tr.get_out l _ d h
    · rw [e] at h ⊢; exact Tr.get_out r _ d h
theorem Tr.has_put {α : Type _} : ∀ (t : Tr α) (i j : Nat) (v : α), (t.put i v).has j = t.has j
  | .nil, _, _, _ => rfl
  | .node x l r, 0, j, v => by cases j <;> rfl
  | .node x l r, i + 1, j, v => by
    simp only [Tr.put]
    rcases Tr.half i with ⟨e, -⟩ | ⟨e, -⟩ <;> rw [e] <;> cases j with
    | zero => rfl
    | succ j =>
      simp only [Tr.has]
      rcases Tr.half j with ⟨e', -⟩ | ⟨e', -⟩ <;> rw [e'] <;> first | exact Tr.has_put _ _ _ _ | rfl
theorem Tr.get_put_same {α : Type _} : ∀ (t : Tr α) (i : Nat) (v d : α), t.has i = true → (t.put i v).get i d = v
  | .node x l r, 0, v, d, _ => rfl
  | .node x l r, i + 1, v, d, h => by
    simp only [Tr.put, Tr.has] at h ⊢
    rcases Tr.half i with ⟨e, -⟩ | ⟨e, -⟩ <;> rw [e] at h ⊢ <;> simp only [Tr.get] <;> rw [e]
    · exact Tr.get_put_same l _ v d h
    · exact Tr.get_put_same r _ v d h
theorem Tr.get_put_other {α : Type _} : ∀ (t : Tr α) (i j : Nat) (v d : α), i ≠ j → (t.put i v).get j d = t.get j d
  | .nil, _, _, _, _, _ => rfl
  | .node x l r, 0, 0, v, d, h => absurd rfl h
  | .node x l r, 0, j + 1, v, d, h => rfl
  | .node x l r, i + 1, 0, v, d, h => by
    simp only [Tr.put]
    rcases Tr.half i with ⟨e, -⟩ | ⟨e, -⟩ <;> rw [e] <;> rfl
  | .node x l r, i + 1, j + 1, v, d, h => by
    simp only [Tr.put]
    rcases Tr.half i with ⟨e, ei⟩ | ⟨e, ei⟩ <;> rw [e] <;> simp only [Tr.get] <;> rcases Tr.half j with ⟨e', ej⟩ | ⟨e', ej⟩ <;> rw [e']
    · exact Tr.get_put_other l (Nat.div i 2) (Nat.div j 2) v d (by omega)
    · rfl
    · rfl
    · exact Tr.get_put_other r (Nat.div i 2) (Nat.div j 2) v d (by omega)
theorem Tr.get_put {α : Type _} (t : Tr α) (i j : Nat) (v d : α) : (t.put i v).get j d = if i = j ∧ t.has j = true then v else t.get j d := by
  by_cases e : i = j
  · subst e
    by_cases hh : t.has i = true
    · rw [if_pos ⟨rfl, hh⟩, Tr.get_put_same t i v d hh]
    · have hf : t.has i = false := by simpa using hh
      rw [if_neg (fun c => hh c.2), Tr.get_out _ _ _ (by rw [Tr.has_put]; exact hf), Tr.get_out _ _ _ hf]
  · rw [if_neg (fun c => e c.1), Tr.get_put_other t i j v d e]
theorem Tr.putK_eq {α : Type _} : ∀ (t : Tr α) (i : Nat) (v : α) (k : Tr α → Prop), t.putK i v k = k (t.put i v)
  | .nil, _, _, _ => rfl
  | .node x l r, 0, v, k => rfl
  | .node x l r, i + 1, v, k => by
    simp only [Tr.putK, Tr.put]
    rcases Tr.half i with ⟨e, -⟩ | ⟨e, -⟩ <;> rw [e] <;> simp only [Tr.putK_eq]
/-- two of one shape -/
def Tr.like {α : Type _} : Tr α → Tr α → Prop
  | .nil, .nil => True
  | .node _ l r, .node _ l' r' => l.like l' ∧ r.like r'
  | _, _ => False
theorem Tr.like_refl {α : Type _} : ∀ (t : Tr α), t.like t
  | .nil => trivial
  | .node _ l r => ⟨l.like_refl, r.like_refl⟩
theorem Tr.like_trans {α : Type _} : ∀ {a b c : Tr α}, a.like b → b.like c → a.like c
  | .nil, .nil, .nil, _, _ => trivial
  | .node _ _ _, .node _ _ _, .node _ _ _, h, k => ⟨Tr.like_trans h.1 k.1, Tr.like_trans h.2 k.2⟩
theorem Tr.like_symm {α : Type _} : ∀ {a b : Tr α}, a.like b → b.like a
  | .nil, .nil, _ => trivial
  | .node _ _ _, .node _ _ _, h => ⟨Tr.like_symm h.1, Tr.like_symm h.2⟩
theorem Tr.like_put {α : Type _} : ∀ (t : Tr α) (i : Nat) (v : α), (t.put i v).like t
  | .nil, _, _ => trivial
  | .node x l r, 0, v => ⟨l.like_refl, r.like_refl⟩
  | .node x l r, i + 1, v => by
    simp only [Tr.put]
    rcases Tr.half i with ⟨e, -⟩ | ⟨e, -⟩ <;> rw [e]
    · exact ⟨Tr.like_put l _ v, r.like_refl⟩
    · exact ⟨l.like_refl, Tr.like_put r _ v⟩
theorem Tr.ext {α : Type _} (d : α) : ∀ {a b : Tr α}, a.like b → (∀ j, a.has j = true → a.get j d = b.get j d) → a = b
  | .nil, .nil, _, _ => rfl
  | .node x l r, .node y l' r', h, hj => by
    have h0 : x = y := hj 0 rfl
    have hl : l = l' := Tr.ext d h.1 fun j hh => by
      have e : Nat.mod (2 * j) 2 = 0 := by show (2 * j) % 2 = 0; omega
      have e2 : Nat.div (2 * j) 2 = j := by show (2 * j) / 2 = j; omega
      have := hj (2 * j + 1) (by simp only [Tr.has]; rw [e, e2]; exact hh)
      simp only [Tr.get] at this
      rw [e, e2] at this
      exact this
    have hr : r = r' := Tr.ext d h.2 fun j hh => by
      have e : Nat.mod (2 * j + 1) 2 = 1 := by show (2 * j + 1) % 2 = 1; omega
      have e2 : Nat.div (2 * j + 1) 2 = j := by show (2 * j + 1) / 2 = j; omega
      have := hj (2 * j + 1 + 1) (by simp only [Tr.has]; rw [e, e2]; exact hh)
      simp only [Tr.get] at this
      rw [e, e2] at this
      exact this
    rw [h0, hl, hr]
def setD {α : Type _} (d : Option Nat) (v : α) (fr : Tr α) : Tr α := match d with
  | some d => fr.put d v
  | none => fr
theorem setK_eq {α : Type _} (d : Option Nat) (v : α) (fr : Tr α) (k : Tr α → Prop) : setK d v fr k = k (setD d v fr) := by
  cases d with
  | none => rfl
  | some d => simp [setK, setD, Tr.putK_eq]
theorem force_eq (x : SV) (k : SV → Prop) : force x k = k x := by cases x <;> rfl
theorem forceL_eq : ∀ (l : List SV) (k : List SV → Prop), forceL l k = k l
  | [], _ => rfl
  | x :: xs, k => by simp [forceL, force_eq, forceL_eq xs]
theorem fldK_elim : ∀ {l : List (Nat × Nat)} {f : Nat} {k : Nat → Nat → Prop}, fldK l f k → ∃ q u, l[f]? = some (q, u) ∧ k q u
  | [], _, _, h => h.elim
  | (o, t) :: _, 0, _, h => ⟨o, t, rfl, h⟩
  | _ :: r, f + 1, _, h => by simpa using fldK_elim (l := r) h
theorem tiK_elim {α : Type _} : ∀ {l : List (Nat × α)} {n : Nat} {f : α → Prop}, tiK l n f → ∃ v, (n, v) ∈ l ∧ f v
  | [], _, _, h => h.elim
  | (k, v) :: r, n, f, h => by
    unfold tiK at h
    cases e : Nat.beq k n with
    | true => rw [e] at h; exact ⟨v, by rw [Nat.eq_of_beq_eq_true e]; exact List.mem_cons_self, h⟩
    | false => rw [e] at h; obtain ⟨u, hu, hf⟩ := tiK_elim (l := r) h; exact ⟨u, List.mem_cons_of_mem _ hu, hf⟩
theorem takeN_eq {α : Type _} : ∀ (n : Nat) (l : List α), takeN n l = l.take n
  | 0, _ => by simp [takeN]
  | _ + 1, [] => by simp [takeN]
  | n + 1, x :: xs => by simp [takeN, takeN_eq n xs]
theorem dropN_eq {α : Type _} : ∀ (n : Nat) (l : List α), dropN n l = l.drop n
  | 0, _ => by simp [dropN]
  | _ + 1, [] => by simp [dropN]
  | n + 1, x :: xs => by simp [dropN, dropN_eq n xs]
theorem at'_takeDrop {α : Type _} (l : List α) (n o j : Nat) (d : α) (h : j < n) : at' (takeN n (dropN o l)) j d = at' l (o + j) d := by
  rw [takeN_eq, dropN_eq]
  by_cases hl : o + j < l.length
  · rw [at'_get _ _ _ (by simp; omega), at'_get _ _ _ hl]
    simp
  · rw [at'_ge _ _ _ (by simp; omega), at'_ge _ _ _ (by omega)]
theorem takeDrop_length {α : Type _} (l : List α) (n o : Nat) (h : o + n ≤ l.length) : (takeN n (dropN o l)).length = n := by
  rw [takeN_eq, dropN_eq]; simp; try omega
theorem over_length {α : Type _} : ∀ (o : Nat) (xs ys : List α), (over o xs ys).length = ys.length
  | _, _, [] => by unfold over; rfl
  | 0, [], y :: ys => by unfold over; rfl
  | 0, x :: xs, y :: ys => by unfold over; simp [over_length 0 xs ys]
  | o + 1, xs, y :: ys => by unfold over; simp [over_length o xs ys]
theorem at'_over {α : Type _} (d : α) : ∀ (o : Nat) (xs ys : List α) (j : Nat), o + xs.length ≤ ys.length →
    at' (over o xs ys) j d = if o ≤ j ∧ j < o + xs.length then at' xs (j - o) d else at' ys j d
  | _, xs, [], j, h => by
    have : xs = [] := by cases xs <;> simp_all
    subst this
    unfold over
    rw [if_neg (by simp)]
  | 0, [], y :: ys, j, h => by unfold over; rw [if_neg (by simp)]
  | 0, x :: xs, y :: ys, j, h => by
    unfold over
    cases j with
    | zero => simp [at']
    | succ j =>
      have := at'_over d 0 xs ys j (by simpa using h)
      simp only [at', this, List.length_cons]
      by_cases hj : j < xs.length
      · rw [if_pos ⟨by omega, by omega⟩, if_pos ⟨by omega, by omega⟩]; simp [at']
      · rw [if_neg (by omega), if_neg (by omega)]
  | o + 1, xs, y :: ys, j, h => by
    unfold over
    cases j with
    | zero => rw [if_neg (by omega)]; rfl
    | succ j =>
      have := at'_over d o xs ys j (by simp at h; omega)
      simp only [at', this]
      by_cases hj : o ≤ j ∧ j < o + xs.length
      · rw [if_pos hj, if_pos (by omega), show j + 1 - (o + 1) = j - o by omega]
      · rw [if_neg hj, if_neg (by omega)]

/-! ### 2. Types and contracts -/
def isAggD : TypeDesc → Bool
  | .struct _ | .array _ _ => true
  | _ => false
structure TOk (P : Program) (t : Nat) (ti : TI) : Prop where
  und : ∃ d, P.underlying t = some d ∧ isAggD d = ti.agg ∧ (ti.slice = true → d = .slice ti.elem) ∧ (ti.str = true → d = .string) ∧ (ti.bool = true → d = .bool) ∧
    ∀ (f q u : Nat), ti.flds[f]? = some (q, u) → ∃ (fs : Array Go.Field) (fd : Go.Field), d = .struct fs ∧ fs[f]? = some fd ∧ fd.offset = q ∧ fd.type = u ∧ ∃ i, P.info? u = some i ∧ i.size ≠ 0
  one : ti.agg = false → 0 < ti.size
  all : ti.flds ≠ [] → ∃ fs : Array Go.Field, P.underlying t = some (.struct fs) ∧ fs.size = ti.flds.length
  inf : ∃ i, P.info? t = some i ∧ i.size = ti.size ∧ i.bytes = ti.bytes ∧ (ti.zero ≠ [] → ∃ z, i.zero = some z ∧ z.cells.toList = ti.zero)
  int : ∀ k, ti.int = some k → P.underlying t = some (.int k)
  ifc : ti.iface = true → ∃ ms, P.underlying t = some (.interface ms)

/-- no block has another length -/
def Shaped (w0 w : World) : Prop := w0.heap.size ≤ w.heap.size ∧ ∀ k, k < w0.heap.size → w.shape? k = w0.shape? k
theorem Shaped.trans {a b c : World} (h : Shaped a b) (k : Shaped b c) : Shaped a c := ⟨Nat.le_trans h.1 k.1, fun i hi => (k.2 i (Nat.lt_of_lt_of_le hi h.1)).trans (h.2 i hi)⟩
theorem Keeps.shaped {M : BM} {w0 w : World} (h : Keeps M w0 w) : Shaped w0 w := ⟨h.size, h.shape⟩
def Sealed (H : HM) (w : World) : Prop := ∀ b o v, H b o = some v → w.cell? ⟨b, o, none⟩ = some v
/-- the cells that a call has sealed in blocks of its own -/
def newH (w : World) (H' : HM) : HM := fun b o => if b < w.heap.size then none else H' b o
/-- What a contract says of the function in memory. -/
def CtrSound (P : Program) (g : Nat) (c : Ctr) : Prop :=
  (∃ fn, P.funcs[g]? = some fn ∧ (fn.name == "runtime.NumGoroutine") = false ∧ fn.body.isNone = false) ∧
  ∀ (x : c.A) (H : HM) (w : World) (vs : Array Value) (id : Nat), c.dom x →
    (∀ b o v, H b o = some v → w.cell? ⟨b, o, none⟩ = some v) → (∀ w', Sealed H w' → Shaped w w' → c.gl w') →
    vs.size = (c.enc x).length → (∀ j, j < (c.enc x).length → G H noB noT (at' (c.enc x) j .junk) (vs.getD j undef)) →
    Calls P g vs w fun e w' => ∃ v H' T', e = .returned v ∧ Below w.heap.size w w' ∧ HLe H H' ∧ (∀ b o, b < w.heap.size → H' b o = H b o) ∧
      (∀ b o i, T' b o = some i → w.heap.size ≤ b ∧ (w'.cell? ⟨b, o, none⟩).isSome = true ∧ w'.frozen? ⟨b, o, none⟩ = false) ∧
      (∀ b o v, H' b o = some v → w'.cell? ⟨b, o, none⟩ = some v ∧ T' b o = none) ∧ G H' noB T' (c.res x id) v ∧ (c.fresh = true → G (newH w H') noB T' (c.res x id) v)

/-- cells of variables by their numbers from 1000 on -/
def insT (v : Option (List SV)) : Nat → Nat → Tr (Option (List SV)) → Tr (Option (List SV))
  | 0, _, t => t
  | f + 1, i, .nil => match i with
    | 0 => .node v .nil .nil
    | i + 1 => match Nat.mod i 2 with
      | 0 => .node none (insT v f (Nat.div i 2) .nil) .nil
      | _ => .node none .nil (insT v f (Nat.div i 2) .nil)
  | f + 1, i, .node x l r => match i with
    | 0 => .node v l r
    | i + 1 => match Nat.mod i 2 with
      | 0 => .node x (insT v f (Nat.div i 2) l) r
      | _ => .node x l (insT v f (Nat.div i 2) r)
theorem insT_get (v : Option (List SV)) : ∀ (f i : Nat) (t : Tr (Option (List SV))) (j : Nat), i + 1 < 2 ^ f → (insT v f i t).get j none = if i = j then v else t.get j none
  | 0, i, t, j, h => by simp at h
  | f + 1, 0, .nil, 0, h => rfl
  | f + 1, 0, .nil, j + 1, h => by
    simp only [insT, Tr.get]
    rcases Tr.half j with ⟨e, -⟩ | ⟨e, -⟩ <;> rw [e] <;> simp
  | f + 1, 0, .node x l r, 0, h => rfl
  | f + 1, 0, .node x l r, j + 1, h => by simp [insT, Tr.get]
  | f + 1, i + 1, .nil, j, h => by
    have hd : Nat.div i 2 = i / 2 := rfl
    have hf : Nat.div i 2 + 1 < 2 ^ f := by rw [Nat.pow_succ] at h; omega
    have ih := fun j => insT_get v f (Nat.div i 2) .nil j hf
    cases j with
    | zero => simp only [insT]; rcases Tr.half i with ⟨e, -⟩ | ⟨e, -⟩ <;> rw [e] <;> rfl
    | succ j =>
      simp only [insT]
      rcases Tr.half i with ⟨e, ei⟩ | ⟨e, ei⟩ <;> rw [e] <;> simp only [Tr.get] <;> rcases Tr.half j with ⟨e2, ej⟩ | ⟨e2, ej⟩ <;> rw [e2] <;> simp only
      · rw [ih]
        by_cases c : Nat.div i 2 = Nat.div j 2
        · rw [if_pos c, if_pos (by omega)]
        · rw [if_neg c, if_neg (by omega)]; rfl
      · rw [if_neg (by omega)]
      · rw [if_neg (by omega)]
      · rw [ih]
        by_cases c : Nat.div i 2 = Nat.div j 2
        · rw [if_pos c, if_pos (by omega)]
        · rw [if_neg c, if_neg (by omega)]; rfl
  | f + 1, i + 1, .node x l r, j, h => by
    have hd : Nat.div i 2 = i / 2 := rfl
    have hf : Nat.div i 2 + 1 < 2 ^ f := by rw [Nat.pow_succ] at h; omega
    cases j with
    | zero => simp only [insT]; rcases Tr.half i with ⟨e, -⟩ | ⟨e, -⟩ <;> rw [e] <;> rfl
    | succ j =>
      simp only [insT]
      rcases Tr.half i with ⟨e, ei⟩ | ⟨e, ei⟩ <;> rw [e] <;> simp only [Tr.get] <;> rcases Tr.half j with ⟨e2, ej⟩ | ⟨e2, ej⟩ <;> rw [e2] <;> simp only
      · rw [insT_get v f _ l _ hf]
        by_cases c : Nat.div i 2 = Nat.div j 2
        · rw [if_pos c, if_pos (by omega)]
        · rw [if_neg c, if_neg (by omega)]
      · rw [if_neg (by omega)]
      · rw [if_neg (by omega)]
      · rw [insT_get v f _ r _ hf]
        by_cases c : Nat.div i 2 = Nat.div j 2
        · rw [if_pos c, if_pos (by omega)]
        · rw [if_neg c, if_neg (by omega)]
def treeOf : Nat → List (List SV) → Tr (Option (List SV)) → Tr (Option (List SV))
  | _, [], t => t
  | i, cs :: r, t => treeOf (i + 1) r (insT (some cs) 13 i t)

theorem treeOf_get : ∀ (l : List (List SV)) (i : Nat) (t : Tr (Option (List SV))) (j : Nat), i + l.length < 8000 →
    (treeOf i l t).get j none = if i ≤ j ∧ j < i + l.length then at' (l.map some) (j - i) none else t.get j none
  | [], i, t, j, h => by rw [if_neg (by simp)]; rfl
  | cs :: r, i, t, j, h => by
    have h : i + (r.length + 1) < 8000 := h
    show (treeOf (i + 1) r (insT (some cs) 13 i t)).get j none = _
    rw [treeOf_get r (i + 1) _ j (by omega), insT_get _ 13 i t j (by omega)]
    by_cases c : i + 1 ≤ j ∧ j < i + 1 + r.length
    · rw [if_pos c, if_pos (by simp; omega)]
      obtain ⟨q, rfl⟩ : ∃ q, j = i + 1 + q := ⟨j - (i + 1), by omega⟩
      rw [show i + 1 + q - (i + 1) = q by omega, show i + 1 + q - i = q + 1 by omega]
      rfl
    · rw [if_neg c]
      by_cases e : i = j
      · rw [if_pos e, if_pos (by simp; omega), e, Nat.sub_self]; rfl
      · rw [if_neg e, if_neg (by simp; omega)]

/-- the variables that were handed in, and what was made -/
def newM (β β' : BM) (m : Nat) : BM := fun i => if i < m then β i else β' i
/-- .. and the blocks whose room was handed in -/
def mB (β rb : BM) : BM := fun i => if 10000 ≤ i then rb i else β i
theorem mB_some {β rb : BM} {i k : Nat} (h : mB β rb i = some k) : (i < 10000 ∧ β i = some k) ∨ (10000 ≤ i ∧ rb i = some k) := by
  unfold mB at h
  by_cases c : 10000 ≤ i
  · rw [if_pos c] at h; exact .inr ⟨c, h⟩
  · rw [if_neg c] at h; exact .inl ⟨by omega, h⟩
theorem mB_lo {β rb : BM} {i : Nat} (h : i < 10000) : mB β rb i = β i := if_neg (by omega)
theorem mB_hi {β rb : BM} {i : Nat} (h : 10000 ≤ i) : mB β rb i = rb i := if_pos h
/-- What a contract says of a function that changes variables. rb: the blocks that hold room of the rows in these variables. -/
def CtrBSound (P : Program) (g : Nat) (c : CtrB) : Prop :=
  (∃ fn, P.funcs[g]? = some fn ∧ (fn.name == "runtime.NumGoroutine") = false ∧ fn.body.isNone = false) ∧
  ∀ (x : c.A) (H : HM) (β : BM) (T : TM) (rb : BM) (w : World) (vs : Array Value) (id : Nat), c.dom x → (∀ i j k, β i = some k → rb j = some k → False) →
    W (mB β rb) w H H β T (treeOf 1000 (c.pre x) .nil) w → (∀ w', Sealed H w' → Shaped w w' → c.gl w') →
    vs.size = (c.enc x).length → (∀ j, j < (c.enc x).length → G H β T (at' (c.enc x) j .junk) (vs.getD j undef)) →
    Calls P g vs w fun e w' => ∃ v H' β' T', e = .returned v ∧ W (mB (newM β β' (1000 + (c.pre x).length)) rb) w H H' β' T' (treeOf 1000 (c.post x id) .nil) w' ∧ (∀ i k, β i = some k → β' i = some k) ∧
      (∀ i k, β i = none → β' i = some k → w.heap.size ≤ k) ∧ (∀ i, 1000 ≤ i → i < 1000 + (c.pre x).length → β i = none → β' i = none) ∧ G H' β' T' (c.res x id) v

/-- A struct type's equality is right. -/
def EqSound (P : Program) (t : Nat) (c : EqC) : Prop :=
  ∀ (u v : c.A) (H : HM) (β : BM) (T : TM) (xs ys : Array Value) (w : World) (x y : Operand), xs.size = (c.cs u).length → ys.size = (c.cs v).length →
    (∀ j, j < (c.cs u).length → G H β T (at' (c.cs u) j .junk) (xs.getD j undef)) → (∀ j, j < (c.cs v).length → G H β T (at' (c.cs v) j .junk) (ys.getD j undef)) →
    (∀ op, (eqGuard op t x y (.agg xs) (.agg ys)).run P w = .ok () w) ∧ (Op.equal t (.agg xs) (.agg ys)).run P w = .ok (c.eq u v) w

/-- such blocks alone are turned, new ones are made -/
structure Chg (X Y : Side) (w w' : World) : Prop where
  os : w'.os = w.os
  tape : w'.tape = w.tape
  output : w'.output = w.output
  size : w.heap.size ≤ w'.heap.size
  block : ∀ k, k < w.heap.size → ¬ X.blk k → w'.heap[k]? = w.heap[k]?
  shape : ∀ k, k < w.heap.size → w'.shape? k = w.shape? k
  holds : Y.holds w'
  blk : ∀ k, Y.blk k → X.blk k ∨ w.heap.size ≤ k
/-- what a contract that turns such blocks says of the function in memory -/
def CtrXSound (P : Program) (g : Nat) (c : CtrX) : Prop :=
  (∃ fn, P.funcs[g]? = some fn ∧ (fn.name == "runtime.NumGoroutine") = false ∧ fn.body.isNone = false) ∧
  ∀ (x : c.A) (H : HM) (w : World) (vs : Array Value), c.dom x → (∀ b o v, H b o = some v → w.cell? ⟨b, o, none⟩ = some v) → (∀ w', Sealed H w' → Shaped w w' → c.gl w') →
    vs.size = (c.enc x).length → (∀ j, j < (c.enc x).length → G H noB noT (at' (c.enc x) j .junk) (vs.getD j undef)) →
    (c.pre x).holds w → (∀ k, (c.pre x).blk k → ∀ o, H k o = none) →
    Calls P g vs w fun e w' => ∃ v u, e = .returned v ∧ Chg (c.pre x) (c.post x u) w w' ∧ G (fun _ _ => none) noB noT (c.res x u) v
/-- an operation that turns such blocks -/
def OpOk (P : Program) (o : Oper) (ρ : Operand → SV) (X : Side) (O : Type) (Y : O → Side) (r : O → SV) : Prop :=
  ∀ (H : HM) (β : BM) (T : TM) (a : Act) (w : World) (Q : Exit → Act → World → Prop) (next : Act → World → Prop),
    (∀ z ∈ o.op.operands, G H β T (ρ z) (a.eval z)) → X.holds w → Sealed H w → (∀ k, X.blk k → ∀ q, H k q = none) →
    (∀ (u : O) (v : Value) (w' : World), Chg X (Y u) w w' → G H β T (r u) v → next (a.put o.dst v) w') → o.wp P a w next Q
structure EnvOk (P : Program) (E : Env) : Prop where
  ctrX : ∀ g c, E.ctrX g = some c → CtrXSound P g c
  glX : ∀ g c, E.ctrX g = some c → ∀ w, E.gl w → c.gl w
  opx : ∀ o ρ X O Y r, E.opx o ρ X O Y r → OpOk P o ρ X O Y r
  eqs : ∀ t c, E.eqs t = some c → EqSound P t c
  ty : ∀ t ti, (t, ti) ∈ E.ty → TOk P t ti
  ctr : ∀ g c, E.ctr g = some c → CtrSound P g c
  ctrB : ∀ g c, E.ctrB g = some c → CtrBSound P g c
  glC : ∀ g c, E.ctr g = some c → ∀ w, E.gl w → c.gl w
  glB : ∀ g c, E.ctrB g = some c → ∀ w, E.gl w → c.gl w
/-- what is known of the package's variables holds in every world with these sealed cells -/
class GlOk (E : Env) (H0 : HM) (w0 : World) : Prop where
  gl : ∀ w, Sealed H0 w → Shaped w0 w → E.gl w
theorem GlOk.ctr {P : Program} {E : Env} {M : BM} {w0 w : World} {H0 H : HM} [hg : GlOk E H0 w0] (hE : EnvOk P E) (hH : HLe H0 H) (hk : Keeps M w0 w) {g : Nat} {c : Ctr} (hc : E.ctr g = some c) : ∀ w', Sealed H w' → Shaped w w' → c.gl w' :=
  fun w' hs hsh => hE.glC g c hc w' (hg.gl w' (fun b o v e => hs b o v (hH b o v e)) (hk.shaped.trans hsh))
theorem GlOk.ctrB {P : Program} {E : Env} {M : BM} {w0 w : World} {H0 H : HM} [hg : GlOk E H0 w0] (hE : EnvOk P E) (hH : HLe H0 H) (hk : Keeps M w0 w) {g : Nat} {c : CtrB} (hc : E.ctrB g = some c) : ∀ w', Sealed H w' → Shaped w w' → c.gl w' :=
  fun w' hs hsh => hE.glB g c hc w' (hg.gl w' (fun b o v e => hs b o v (hH b o v e)) (hk.shaped.trans hsh))

theorem GlOk.ctrX {P : Program} {E : Env} {M : BM} {w0 w : World} {H0 H : HM} [hg : GlOk E H0 w0] (hE : EnvOk P E) (hH : HLe H0 H) (hk : Keeps M w0 w) {g : Nat} {c : CtrX} (hc : E.ctrX g = some c) : ∀ w', Sealed H w' → Shaped w w' → c.gl w' :=
  fun w' hs hsh => hE.glX g c hc w' (hg.gl w' (fun b o v e => hs b o v (hH b o v e)) (hk.shaped.trans hsh))

/-! ### 3. Frames -/
section
variable {H : HM} {β : BM} {T : TM} {a : Act}

theorem G.undef : G H β T (.val undef) undef := .val _
theorem at'_map_val (cs : Array Value) (j : Nat) (h : j < cs.size) : at' (cs.toList.map SV.val) j .junk = .val (cs.getD j Go.undef) := by
  rw [at'_get _ _ _ (by simpa using h)]
  simp [h]
theorem ev_G {s : ASt} (h : FR H β T s.fr a) (x : Operand) : G H β T (ev s x) (a.eval x) := by
  cases x with
  | tmp t => exact h.val t
  | const v =>
    cases v with
    | bool b => cases b with | true => exact .tt | false => exact .ff
    | agg cs => exact .agg _ cs (by simp) fun j hj => by rw [at'_map_val cs j (by simpa using hj)]; exact .val _
    | _ => exact .val _
  | global g => exact .junk _
  | func f => exact .fn f [] #[] rfl (fun j hj => by simp at hj)
theorem FR.put' {fr : Tr SV} (h : FR H β T fr a) {v : SV} {u : Value} (hv : G H β T v u) (d : Option Nat) : FR H β T (setD d v fr) (a.put d u) := by
  cases d with
  | none => exact h
  | some d =>
    refine ⟨fun j hj => ?_, by simpa [Act.put] using h.defers, ?_⟩
    · rw [show setD (some d) v fr = fr.put d v from rfl, Tr.has_put] at hj
      simpa [Act.put] using h.size j hj
    intro j
    rw [show setD (some d) v fr = fr.put d v from rfl]
    rw [Tr.get_put]
    show G H β T _ ((a.tmps.setIfInBounds d u).getD j Go.undef)
    by_cases e : d = j
    · subst e
      by_cases hh : fr.has d = true
      · rw [if_pos ⟨rfl, hh⟩]
        simp [Array.getD, h.size d hh]
        exact hv
      · rw [if_neg (fun c => hh c.2), Tr.get_out fr d _ (by simpa using hh)]
        exact .junk _
    · rw [if_neg (fun c => e c.1)]
      have hg : (a.tmps.setIfInBounds d u).getD j Go.undef = a.tmps.getD j Go.undef := by
        simp [Array.getD_eq_getD_getElem?, Array.getElem?_setIfInBounds_ne e]
      rw [hg]; exact h.val j
theorem FR.mono {H' : HM} {β' : BM} {T' : TM} {fr : Tr SV} (h : FR H β T fr a) (hH : HLe H H') (hb : BLe β β') (ht : TLe T T') : FR H' β' T' fr a :=
  ⟨h.size, h.defers, fun j => (h.val j).mono hH hb ht⟩
end

/-! ### 4. Memory -/
section
variable {P : Program} {M : BM} {w0 w : World} {H0 H : HM} {β : BM} {T : TM} {bx : Tr (Option (List SV))}

theorem shape_eq {w w' : World} {k : Nat} (h : w'.heap[k]? = w.heap[k]?) : w'.shape? k = w.shape? k := by unfold World.shape?; rw [h]
theorem Keeps.alloc (h : Keeps M w0 w) (o : Obj) : Keeps M w0 (w.alloc o) :=
  ⟨h.os, h.tape, h.output, by have := h.size; simp; omega, fun k hk hm => by rw [← h.block k hk hm, Below.heap_alloc _ _ _ (Nat.lt_of_lt_of_le hk h.size)],
    fun k hk => by rw [← h.shape k hk]; exact shape_eq (Below.heap_alloc _ _ _ (Nat.lt_of_lt_of_le hk h.size))⟩
theorem shape_setCell (w : World) (p : Addr) (v : Value) (k : Nat) : (w.setCell p v).shape? k = w.shape? k := by
  unfold World.shape? World.setCell
  simp only [Array.getElem?_modify]
  by_cases h : p.block = k
  · rw [if_pos h]
    cases w.heap[k]? with
    | none => rfl
    | some o =>
      cases o with
      | cells c e f =>
        simp only [Option.map_some]
        split <;> simp
      | _ => rfl
  · rw [if_neg h]
theorem Edge.heap {w w' : World} {k : Nat} (h : Edge w k) (e : ∀ b, b < w.heap.size → w'.heap[b]? = w.heap[b]?) (hs : w.heap.size ≤ w'.heap.size) : Edge w' k := ⟨Nat.lt_of_lt_of_le h.1 hs, fun c t lo hi q => h.2 c t lo hi (e k h.1 ▸ q)⟩
theorem Edge.setCell {w : World} {k : Nat} (h : Edge w k) (p : Addr) (v : Value) : Edge (w.setCell p v) k := by
  refine ⟨by simpa using h.1, ?_⟩
  intro c t lo hi q
  unfold World.setCell at q
  simp only [Array.getElem?_modify] at q
  by_cases hp : p.block = k
  · rw [if_pos hp] at q
    cases hk : w.heap[k]? with
    | none => rw [hk] at q; cases q
    | some o =>
      rw [hk] at q
      cases o with
      | cells c' t' f' =>
        simp only [Option.map_some, Option.some.injEq, Obj.cells.injEq] at q
        obtain ⟨q1, q2, q3⟩ := q
        subst q3
        have := h.2 c' t' lo hi (by rw [hk])
        rw [← q1]
        split <;> simpa using this
      | _ => cases q
  · rw [if_neg hp] at q
    exact h.2 c t lo hi q
theorem Edge.setCells {k : Nat} : ∀ (vs : List Value) (b o : Nat) {w : World}, Edge w k → Edge (w.setCells b o vs) k
  | [], _, _, _, h => h
  | v :: r, b, o, _, h => Edge.setCells r b (o + 1) (h.setCell ⟨b, o, none⟩ v)
theorem Edge.setCells' {k : Nat} {w : World} (h : Edge w k) (b o : Nat) (vs : List Value) : Edge (w.setCells b o vs) k := Edge.setCells vs b o h
theorem Keeps.setCell (h : Keeps M w0 w) (p : Addr) (hp : Mine M w0 p.block) (v : Value) : Keeps M w0 (w.setCell p v) :=
  ⟨h.os, h.tape, h.output, by simpa using h.size, fun k hk hm => by
    rw [← h.block k hk hm]
    refine Below.heap_setCell _ _ _ _ fun e => ?_
    cases hp with
    | inl hq => exact hm (e ▸ hq)
    | inr hq => omega, fun k hk => by rw [← h.shape k hk]; exact shape_setCell w p v k⟩
theorem Keeps.setCells (h : Keeps M w0 w) (b : Nat) (hp : Mine M w0 b) : ∀ (vs : List Value) (o : Nat) {w : World}, Keeps M w0 w → Keeps M w0 (w.setCells b o vs)
  | [], _, _, k => k
  | v :: r, o, w, k => Keeps.setCells h b hp r (o + 1) (k.setCell ⟨b, o, none⟩ hp v)
theorem Keeps.drew (h : Keeps M w0 w) : Keeps M w0 w.drew := ⟨h.os, h.tape, h.output, h.size, h.block, h.shape⟩
theorem Keeps.below {w' : World} (h : Keeps M w0 w) (k : Below w.heap.size w w') : Keeps M w0 w' :=
  ⟨k.os.trans h.os, k.tape.trans h.tape, k.output.trans h.output, Nat.le_trans h.size k.size, fun i hi hm => (k.block i (Nat.lt_of_lt_of_le hi h.size)).trans (h.block i hi hm), fun i hi => (shape_eq (k.block i (Nat.lt_of_lt_of_le hi h.size))).trans (h.shape i hi)⟩

theorem W.drew (h : W M w0 H0 H β T bx w) : W M w0 H0 H β T bx w.drew :=
  ⟨h.lies, h.box, h.bβ, h.inj, h.tail, h.sep, h.hand, h.many, h.mine, h.out, h.keep.drew, h.ext, h.fresh, h.edge, fun X e => (h.side X e).world fun _ _ _ => rfl⟩
theorem Rel.drew {s : ASt} {a : Act} (h : Rel M w0 H0 s a w) : Rel M w0 H0 s a w.drew := by
  obtain ⟨H, β, T, hf, hw⟩ := h
  exact ⟨H, β, T, hf, hw.drew⟩

def bset (β : BM) (d k : Nat) : BM := fun i => if i = d then some k else β i

theorem cell_lt {w : World} {b o : Nat} {v : Value} (h : w.cell? ⟨b, o, none⟩ = some v) : b < w.heap.size := World.block_lt_of_cell? w _ h
theorem cell_alloc {w : World} {o : Obj} {b j : Nat} {v : Value} (h : w.cell? ⟨b, j, none⟩ = some v) : (w.alloc o).cell? ⟨b, j, none⟩ = some v := by
  rw [World.cell?_alloc_lt _ _ _ (cell_lt h)]; exact h
theorem no_new (h : W M w0 H0 H β T bx w) (j : Nat) : H w.heap.size j = none ∧ T w.heap.size j = none := by
  constructor
  · cases e : H w.heap.size j with
    | none => rfl
    | some v => have := cell_lt (h.lies _ _ _ e).1; omega
  · cases e : T w.heap.size j with
    | none => rfl
    | some i =>
      obtain ⟨_, hc, _⟩ := h.tail _ _ _ e
      obtain ⟨v, hv⟩ := Option.isSome_iff_exists.1 hc
      have := cell_lt hv
      omega
theorem Tr.get_in {α : Type _} : ∀ (t : Tr α) (j : Nat) (d d' : α), t.has j = true → t.get j d = t.get j d'
  | .node v l r, 0, _, _, _ => rfl
  | .node v l r, j + 1, d, d', h => by
    simp only [Tr.has, Tr.get] at h ⊢
    rcases Tr.half j with ⟨e, -⟩ | ⟨e, -⟩
    · rw [e] at h ⊢; exact Tr.get_in l _ d d' h
    · rw [e] at h ⊢; exact Tr.get_in r _ d d' h
theorem at'_none {bx : Tr (Option (List SV))} {d : Nat} (h : bx.get d (some []) = none) : bx.has d = true ∧ bx.get d none = none := by
  cases hl : bx.has d with
  | true => exact ⟨rfl, by rw [Tr.get_in bx d _ (some []) hl]; exact h⟩
  | false => rw [Tr.get_out _ _ _ hl] at h; cases h
theorem W.heap_eq {w' : World} (h : W M w0 H0 H β T bx w) (hk : Keeps M w0 w') (hc : ∀ b o v, w.cell? ⟨b, o, none⟩ = some v → w'.cell? ⟨b, o, none⟩ = some v)
    (hq : ∀ b, b < w.heap.size → w'.heap[b]? = w.heap[b]?) (hs : w.heap.size ≤ w'.heap.size) : W M w0 H0 H β T bx w' := by
  have hf : ∀ b o, b < w.heap.size → w'.frozen? ⟨b, o, none⟩ = w.frozen? ⟨b, o, none⟩ := fun b o hb => by simp only [World.frozen?, hq b hb]
  refine ⟨fun b o v e => ⟨hc _ _ _ (h.lies b o v e).1, (h.lies b o v e).2⟩, ?_, fun id k e => ⟨Nat.lt_of_lt_of_le (h.bβ id k e).1 hs, (h.bβ id k e).2⟩, h.inj, ?_, h.sep, h.hand, h.many, h.mine, h.out, hk, h.ext, h.fresh, fun k e => (h.edge k e).heap hq hs, fun X e => (h.side X e).world fun k hk _ => hq k hk⟩
  · intro id cs e hl
    obtain ⟨k, hk, hm, hj⟩ := h.box id cs e hl
    refine ⟨k, hk, hm, fun j hlt => ?_⟩
    obtain ⟨a1, a2, a3, v, a4, a5⟩ := hj j hlt
    exact ⟨a1, a2, by rw [hf _ _ (cell_lt a4)]; exact a3, v, hc _ _ _ a4, a5⟩
  · intro b o id e
    obtain ⟨a1, a2, a3⟩ := h.tail b o id e
    obtain ⟨v, hv⟩ := Option.isSome_iff_exists.1 a2
    exact ⟨a1, by rw [hc _ _ _ hv]; rfl, by rw [hf _ _ (cell_lt hv)]; exact a3⟩
theorem W.mono (h : W M w0 H0 H β T bx w) {β' : BM} (hb : BLe β β') : ∀ id cs, bx.get id none = some cs → 0 < xlen cs → ∃ k, β id = some k ∧ Mine M w0 k ∧ ∀ j, j < xlen cs →
    H k j = none ∧ T k j = none ∧ w.frozen? ⟨k, j, none⟩ = false ∧ ∃ v, w.cell? ⟨k, j, none⟩ = some v ∧ G H β' T (xat cs j) v := by
  intro id cs e hl
  obtain ⟨k, hk, hm, hj⟩ := h.box id cs e hl
  refine ⟨k, hk, hm, fun j hlt => ?_⟩
  obtain ⟨a1, a2, a3, v, a4, a5⟩ := hj j hlt
  exact ⟨a1, a2, a3, v, a4, a5.mono (.refl _) hb (.refl _)⟩
/-- a box is made -/
theorem W.newBox (h : W M w0 H0 H β T bx w) {d : Nat} (hdm : Nat.blt d 1000 = true) (hd0 : bx.get d (some []) = none) {cs : List SV} {vs : Array Value} {t : TypeId}
    (hn : xlen cs ≤ vs.size) (hg : ∀ j, j < xlen cs → G H β T (xat cs j) (vs.getD j undef))
    (hmany : ∀ X sz c d l, cs = [.many X sz c d l] → 0 < sz ∧ ∀ x, (c x).length = sz ∧ imm.imms (c x) = true ∧ allOk (c x) = true) :
    BLe β (bset β d w.heap.size) ∧ W M w0 H0 H (bset β d w.heap.size) T (bx.put d (some cs)) (w.alloc (.cells vs t)) := by
  obtain ⟨hdl, hd⟩ := at'_none hd0
  have hβd : β d = none := by
    cases e : β d with
    | none => rfl
    | some k => obtain ⟨_, cs, hc⟩ := h.bβ d k e; rw [hd] at hc; cases hc
  have hle : BLe β (bset β d w.heap.size) := fun b k e => by
    unfold bset
    by_cases hb : b = d
    · subst hb; rw [hβd] at e; cases e
    · rw [if_neg hb]; exact e
  have h' := h.heap_eq (w' := w.alloc (.cells vs t)) (h.keep.alloc _) (fun b o v e => cell_alloc e) (fun b hb => Below.heap_alloc _ _ _ hb) (by simp)
  refine ⟨hle, h'.lies, ?_, ?_, ?_, h'.tail, fun b o i e j c => ?_, fun i k e => ⟨(h.hand i k e).1, fun k' c => ?_⟩, ?_, ?_, ?_, h'.keep, h.ext, h.fresh, fun k e => ?_, fun Y e => ?_⟩
  · intro id cs' e hl
    rw [Tr.get_put] at e
    by_cases hid : d = id
    · subst hid
      rw [if_pos ⟨rfl, hdl⟩] at e
      obtain rfl := Option.some.inj e
      refine ⟨w.heap.size, by simp [bset], .inr h.keep.size, fun j hj => ?_⟩
      obtain ⟨a1, a2⟩ := no_new h j
      refine ⟨a1, a2, by simp, vs.getD j undef, ?_, (hg j hj).mono (.refl _) hle (.refl _)⟩
      rw [World.cell?_alloc_new]
      simp [show j < vs.size by omega]
    · rw [if_neg (fun c => hid c.1)] at e
      obtain ⟨k, hk, rest⟩ := h'.mono hle id cs' e hl
      exact ⟨k, hle _ _ hk, rest⟩
  · intro id k e
    unfold bset at e
    by_cases hid : id = d
    · subst hid
      rw [if_pos rfl] at e
      obtain rfl := Option.some.inj e
      exact ⟨by simp, cs, by rw [Tr.get_put, if_pos ⟨rfl, hdl⟩]⟩
    · rw [if_neg hid] at e
      obtain ⟨a1, cs', a2⟩ := h'.bβ id k e
      exact ⟨a1, cs', by rw [Tr.get_put, if_neg (fun c => hid c.1.symm)]; exact a2⟩
  · intro i j k ei ej
    unfold bset at ei ej
    by_cases hi : i = d <;> by_cases hj : j = d
    · rw [hi, hj]
    · rw [if_pos hi] at ei; rw [if_neg hj] at ej
      obtain rfl := Option.some.inj ei
      have := (h.bβ _ _ ej).1; omega
    · rw [if_neg hi] at ei; rw [if_pos hj] at ej
      obtain rfl := Option.some.inj ej
      have := (h.bβ _ _ ei).1; omega
    · rw [if_neg hi] at ei; rw [if_neg hj] at ej
      exact h.inj _ _ _ ei ej
  · unfold bset at c
    by_cases hj : j = d
    · rw [if_pos hj] at c
      obtain rfl := Option.some.inj c
      rw [(no_new h o).2] at e; cases e
    · rw [if_neg hj] at c; exact h.sep _ _ _ e _ c
  · unfold bset at c
    have h1 := (h.hand i k e).1
    have h2 : d < 1000 := by have := Nat.le_of_ble_eq_true hdm; omega
    rw [if_neg (by omega)] at c
    exact (h.hand i k e).2 _ c
  · intro id X sz c dd l e
    rw [Tr.get_put] at e
    by_cases hid : d = id
    · subst hid
      rw [if_pos ⟨rfl, hdl⟩] at e
      exact hmany X sz c dd l (Option.some.inj e)
    · rw [if_neg (fun c => hid c.1)] at e
      exact h.many id X sz c dd l e
  · intro id k e
    unfold bset at e
    by_cases hid : id = d
    · rw [if_pos hid] at e
      obtain rfl := Option.some.inj e
      exact ⟨.inr h.keep.size, fun _ => h.keep.size⟩
    · rw [if_neg hid] at e; exact h.mine _ _ e
  · intro i h1 h2
    unfold bset
    have h3 : d < 1000 := by have := Nat.le_of_ble_eq_true hdm; omega
    rw [if_neg (by omega)]
    exact h.out i h1 h2
  · by_cases hkd : k = w.heap.size
    · subst hkd
      refine ⟨by simp, ?_⟩
      intro c t' lo hi q
      have hq : (w.alloc (.cells vs t)).heap[w.heap.size]? = some (.cells vs t (0, 0)) := by
        show (w.heap.push _)[w.heap.size]? = _
        simp
      rw [hq] at q
      cases q
      exact .inl rfl
    · refine h'.edge k ?_
      obtain ⟨i, e | e⟩ := e
      · unfold bset at e
        by_cases hid : i = d
        · rw [if_pos hid] at e; exact absurd (Option.some.inj e).symm hkd
        · rw [if_neg hid] at e; exact ⟨i, .inl e⟩
      · exact ⟨i, .inr e⟩
  · have h2 : d < 1000 := by have := Nat.le_of_ble_eq_true hdm; omega
    rw [Tr.get_put, if_neg (fun c => by omega)] at e
    refine (h.side Y e).of (fun k hk _ => Below.heap_alloc _ _ _ hk) (fun k hk hb => ⟨fun i c => ?_, ((h.side Y e).2 k hb).2.1⟩)
    unfold bset at c
    split at c
    · have := Option.some.inj c; omega
    · exact ((h.side Y e).2 k hb).1 i c
theorem W.newPlain (h : W M w0 H0 H β T bx w) {d : Nat} (hdm : Nat.blt d 1000 = true) (hd0 : bx.get d (some []) = none) {cs : List SV} (hpl : plain cs = true) {vs : Array Value} {t : TypeId}
    (hn : vs.size = cs.length) (hg : ∀ j, j < cs.length → G H β T (at' cs j .junk) (vs.getD j undef)) :
    BLe β (bset β d w.heap.size) ∧ W M w0 H0 H (bset β d w.heap.size) T (bx.put d (some cs)) (w.alloc (.cells vs t)) :=
  h.newBox hdm hd0 (by rw [(xlen_plain hpl).1]; exact Nat.le_of_eq hn.symm) (fun j hj => by rw [xat_plain hpl]; exact hg j (by rw [← (xlen_plain hpl).1]; exact hj)) (fun X sz c d l e => by rw [e] at hpl; cases hpl)
theorem W.congr {bx' : Tr (Option (List SV))} (h : W M w0 H0 H β T bx w) (e : ∀ id, bx'.get id none = bx.get id none) : W M w0 H0 H β T bx' w :=
  ⟨h.lies, fun id cs c => h.box id cs (by rw [← e]; exact c), fun id k c => ⟨(h.bβ id k c).1, by rw [e]; exact (h.bβ id k c).2⟩, h.inj, h.tail, h.sep, h.hand, fun id X sz cs d l c => h.many id X sz cs d l (by rw [← e]; exact c), h.mine, h.out, h.keep, h.ext, h.fresh, h.edge, fun X c => h.side X (by rw [← e]; exact c)⟩
/-- a row without places, without a block -/
theorem W.newEmpty (h : W M w0 H0 H β T bx w) {d : Nat} (hd0 : bx.get d (some []) = none) {X : Type} {sz : Nat} (h7 : d < 1000 ∨ sz < 7777) {cs : X → List SV} (e : X)
    (hs : 0 < sz ∧ ∀ x, (cs x).length = sz ∧ imm.imms (cs x) = true ∧ allOk (cs x) = true) : W M w0 H0 H β T (bx.put d (some [.many X sz cs e []])) w := by
  obtain ⟨hdl, hd⟩ := at'_none hd0
  have hget : ∀ id, (bx.put d (some [.many X sz cs e []])).get id none = if d = id then some [.many X sz cs e []] else bx.get id none := by
    intro id
    rw [Tr.get_put]
    by_cases hid : d = id
    · subst hid; rw [if_pos ⟨rfl, hdl⟩, if_pos rfl]
    · rw [if_neg (fun c => hid c.1), if_neg hid]
  refine ⟨h.lies, ?_, ?_, h.inj, h.tail, h.sep, h.hand, ?_, h.mine, h.out, h.keep, h.ext, h.fresh, h.edge, fun Y c => ?_⟩
  · intro id cs' c hl
    rw [hget] at c
    by_cases hid : d = id
    · rw [if_pos hid] at c
      cases c
      have : xlen [SV.many X sz cs e []] = 0 := by show ([] : List X).length * sz = 0; simp
      omega
    · rw [if_neg hid] at c; exact h.box id cs' c hl
  · intro id k c
    obtain ⟨a1, cs', a2⟩ := h.bβ id k c
    refine ⟨a1, ?_⟩
    rw [hget]
    by_cases hid : d = id
    · exact ⟨_, if_pos hid⟩
    · exact ⟨cs', by rw [if_neg hid]; exact a2⟩
  · intro id X' sz' c' d' l' c
    rw [hget] at c
    by_cases hid : d = id
    · rw [if_pos hid] at c; cases c; exact hs
    · rw [if_neg hid] at c; exact h.many _ _ _ _ _ _ c
  · rw [hget] at c
    by_cases hid : d = 9999
    · rw [if_pos hid] at c
      have c2 : [SV.many X sz cs e []] = sideB Y := Option.some.inj c
      unfold sideB at c2
      injection c2 with c3
      injection c3 with c4 c5
      omega
    · rw [if_neg hid] at c; exact h.side Y c
theorem xlen_side (X : Side) : xlen (sideB X) = 0 := by show ([] : List Side).length * 7777 = 0; exact Nat.zero_mul _
theorem side_set {X : Type} {sz : Nat} {c : X → List SV} {d : X} {l l' : List X} (hl : l'.length = l.length) (Y : Side) (h : [SV.many X sz c d l'] = sideB Y) : [SV.many X sz c d l] = sideB Y := by
  unfold sideB at h ⊢
  injection h with h _
  injection h with h1 h2 h3 h4 h5
  subst h1 h2
  obtain rfl := eq_of_heq h3
  obtain rfl := eq_of_heq h4
  obtain rfl := eq_of_heq h5
  obtain rfl := List.eq_nil_of_length_eq_zero hl.symm
  rfl
theorem side_plain {cs : List SV} (h : plain cs = true) (Y : Side) (e : cs = sideB Y) : False := by rw [e] at h; cases h
theorem setCells_heap (k : Nat) : ∀ (vs : List Value) (o : Nat) (w : World) (q : Nat), q ≠ k → (w.setCells k o vs).heap[q]? = w.heap[q]?
  | [], _, _, _, _ => rfl
  | v :: r, o, w, q, hq => by
    show (World.setCells (w.setCell ⟨k, o, none⟩ v) k (o + 1) r).heap[q]? = _
    rw [setCells_heap k r (o + 1) _ q hq]
    exact Below.heap_setCell _ _ _ _ hq
theorem setCells_size (k : Nat) : ∀ (vs : List Value) (o : Nat) (w : World), (w.setCells k o vs).heap.size = w.heap.size := by
  intro vs
  induction vs with
  | nil => intro o w; rfl
  | cons v r ih => intro o w; simp [World.setCells, ih]
/-- cells of a variable are written -/
theorem W.write (h : W M w0 H0 H β T bx w) {b : Nat} {cs cs' : List SV} (hb : bx.get b none = some cs) {k : Nat} (hk : β b = some k) {p : Nat} {vs : List Value}
    (hp : p + vs.length ≤ xlen cs) (hl : xlen cs' = xlen cs) (hg : ∀ j, j < vs.length → G H β T (xat cs' (p + j)) (vs.getD j undef))
    (hsame : ∀ j, j < xlen cs → (j < p ∨ p + vs.length ≤ j) → ∀ v, G H β T (xat cs j) v → G H β T (xat cs' j) v)
    (hmany : ∀ X sz c d l, cs' = [.many X sz c d l] → 0 < sz ∧ ∀ x, (c x).length = sz ∧ imm.imms (c x) = true ∧ allOk (c x) = true) (hsd : ∀ X, cs' = sideB X → cs = sideB X) :
    W M w0 H0 H β T (bx.put b (some cs')) (w.setCells k p vs) := by
  have hbl : bx.has b = true := by
    cases hl : bx.has b with
    | true => rfl
    | false => rw [Tr.get_out _ _ _ hl] at hb; cases hb
  have hm2 : ∀ id X sz c d l, (bx.put b (some cs')).get id none = some [.many X sz c d l] → 0 < sz ∧ ∀ x, (c x).length = sz ∧ imm.imms (c x) = true ∧ allOk (c x) = true := by
    intro id X sz c dd l e
    rw [Tr.get_put] at e
    by_cases hid : b = id
    · subst hid
      rw [if_pos ⟨rfl, hbl⟩] at e
      exact hmany X sz c dd l (Option.some.inj e)
    · rw [if_neg (fun c => hid c.1)] at e
      exact h.many id X sz c dd l e
  have hbβ2 : ∀ id k2, β id = some k2 → k2 < w.heap.size ∧ ∃ cs, (bx.put b (some cs')).get id none = some cs := by
    intro id k2 e
    obtain ⟨a1, cs2, a2⟩ := h.bβ id k2 e
    refine ⟨a1, ?_⟩
    rw [Tr.get_put]
    by_cases hid : b = id
    · exact ⟨_, if_pos ⟨hid, hid ▸ hbl⟩⟩
    · rw [if_neg (fun c => hid c.1)]; exact ⟨cs2, a2⟩
  by_cases hz : xlen cs = 0
  · obtain rfl : vs = [] := List.eq_nil_of_length_eq_zero (by omega)
    refine ⟨h.lies, ?_, hbβ2, h.inj, h.tail, h.sep, h.hand, hm2, h.mine, h.out, h.keep, h.ext, h.fresh, h.edge, fun Y e => ?_⟩
    · intro id cs2 e hl2
      rw [Tr.get_put] at e
      by_cases hid : b = id
      · subst hid
        rw [if_pos ⟨rfl, hbl⟩] at e
        obtain rfl := Option.some.inj e
        omega
      · rw [if_neg (fun c => hid c.1)] at e
        exact h.box id cs2 e hl2
    · refine h.side Y ?_
      rw [Tr.get_put] at e
      by_cases hid : b = 9999
      · rw [if_pos ⟨hid, hid ▸ hbl⟩] at e
        rw [← hid, hb, hsd Y (Option.some.inj e)]
      · rw [if_neg (fun c => hid c.1)] at e; exact e
  obtain ⟨k', hk', hm, hj⟩ := h.box b cs hb (by omega)
  obtain rfl : k = k' := Option.some.inj (hk.symm.trans hk')
  have hout : ∀ (c q : Nat), (c = k → q < p ∨ p + vs.length ≤ q) → (w.setCells k p vs).cell? ⟨c, q, none⟩ = w.cell? ⟨c, q, none⟩ :=
    fun c q hq => World.cell?_setCells_out k vs p w ⟨c, q, none⟩ (fun e _ => hq e)
  have hin : ∀ j (hj : j < vs.length), (w.setCells k p vs).cell? ⟨k, p + j, none⟩ = some vs[j] :=
    fun j hjl => World.cell?_setCells_in k vs p w (fun i hi => by obtain ⟨_, _, _, v, hv, _⟩ := hj (p + i) (by omega); rw [hv]; rfl) j hjl
  have hsz := setCells_size k vs p w
  refine ⟨?_, ?_, fun id k2 e => by rw [hsz]; exact hbβ2 id k2 e, h.inj, ?_, h.sep, h.hand, hm2, h.mine, h.out, Keeps.setCells h.keep k hm vs p h.keep, h.ext, h.fresh, fun k2 e => (h.edge k2 e).setCells' _ _ _, fun Y e => ?_⟩
  · intro c q v e
    refine ⟨?_, (h.lies c q v e).2⟩
    rw [hout c q ?_]
    · exact (h.lies c q v e).1
    · intro hc
      subst hc
      by_cases hq : q < xlen cs
      · have := (hj q hq).1; rw [e] at this; cases this
      · right; omega
  · intro id cs2 e hl2
    rw [Tr.get_put] at e
    by_cases hid : b = id
    · subst hid
      rw [if_pos ⟨rfl, hbl⟩] at e
      obtain rfl := Option.some.inj e
      refine ⟨k, hk, hm, fun j hjl => ?_⟩
      rw [hl] at hjl
      obtain ⟨a1, a2, a3, v, a4, a5⟩ := hj j hjl
      refine ⟨a1, a2, by rw [World.frozen?_setCells]; exact a3, ?_⟩
      by_cases hr : p ≤ j ∧ j < p + vs.length
      · have hlt : j - p < vs.length := by omega
        refine ⟨vs[j - p], ?_, ?_⟩
        · have := hin (j - p) hlt
          rwa [show p + (j - p) = j by omega] at this
        · have := hg (j - p) hlt
          rw [show p + (j - p) = j by omega] at this
          simpa [hlt] using this
      · exact ⟨v, by rw [hout k j (fun _ => by omega)]; exact a4, hsame j hjl (by omega) v a5⟩
    · rw [if_neg (fun c => hid c.1)] at e
      obtain ⟨k2, hk2, hm2, hj2⟩ := h.box id cs2 e hl2
      have hne : k2 ≠ k := fun c => hid (h.inj _ _ _ hk (c ▸ hk2))
      refine ⟨k2, hk2, hm2, fun j hjl => ?_⟩
      obtain ⟨a1, a2, a3, v, a4, a5⟩ := hj2 j hjl
      exact ⟨a1, a2, by rw [World.frozen?_setCells]; exact a3, v, by rw [hout k2 j (fun c => absurd c hne)]; exact a4, a5⟩
  · intro c q id e
    obtain ⟨a1, a2, a3⟩ := h.tail c q id e
    refine ⟨a1, ?_, by rw [World.frozen?_setCells]; exact a3⟩
    rw [hout c q ?_]
    · exact a2
    · intro hc
      subst hc
      by_cases hq : q < xlen cs
      · have := (hj q hq).2.1; rw [e] at this; cases this
      · right; omega
  · rw [Tr.get_put] at e
    by_cases hid : b = 9999
    · rw [if_pos ⟨hid, hid ▸ hbl⟩] at e
      have := hsd Y (Option.some.inj e)
      rw [this] at hz
      exact (hz (xlen_side Y)).elim
    · rw [if_neg (fun c => hid c.1)] at e
      exact (h.side Y e).world fun q _ hq => setCells_heap k vs p w q fun c => ((h.side Y e).2 q hq).1 b (c ▸ hk)
theorem plain_of_G {cs : List SV} (h : 0 < cs.length) (hg : ∃ v, G H β T (at' cs 0 .junk) v) : plain cs = true := by
  obtain ⟨v, hg⟩ := hg
  match cs, h with
  | c :: r, _ =>
    replace hg : G H β T c v := hg
    cases hg <;> rfl
/-- values changed one by one, rows of places left alone -/
structure MapOk (φ : SV → SV) (φs : List SV → List SV) : Prop where
  nil : φs [] = []
  cons : ∀ x xs, φs (x :: xs) = φ x :: φs xs
  many : ∀ x, (isMany [x] = true ∧ φ x = x) ∨ (isMany [x] = false ∧ isMany [φ x] = false)
theorem MapOk.length {φ : SV → SV} {φs : List SV → List SV} (h : MapOk φ φs) : ∀ l, (φs l).length = l.length
  | [] => by rw [h.nil]
  | x :: xs => by rw [h.cons, List.length_cons, List.length_cons, h.length xs]
theorem MapOk.at {φ : SV → SV} {φs : List SV → List SV} (h : MapOk φ φs) : ∀ (l : List SV) (j : Nat), j < l.length → at' (φs l) j .junk = φ (at' l j .junk)
  | x :: xs, 0, _ => by rw [h.cons]; rfl
  | x :: xs, j + 1, hj => by rw [h.cons]; exact h.at xs j (by simpa using hj)
theorem xlen_two' (a b : SV) (r : List SV) : xlen (a :: b :: r) = (a :: b :: r).length := by cases a <;> rfl
theorem xat_two' (a b : SV) (r : List SV) (j : Nat) : xat (a :: b :: r) j = at' (a :: b :: r) j .junk := by cases a <;> rfl
theorem MapOk.xlen {φ : SV → SV} {φs : List SV → List SV} (h : MapOk φ φs) : ∀ cs, Ax.xlen (φs cs) = Ax.xlen cs
  | [] => by rw [h.nil]
  | [x] => by
    rw [h.cons, h.nil]
    rcases h.many x with ⟨-, e⟩ | ⟨e1, e2⟩
    · rw [e]
    · rw [xlen_not e1, xlen_not e2]; rfl
  | a :: b :: r => by
    rw [h.cons, h.cons, xlen_two', xlen_two', List.length_cons, List.length_cons, h.length]; rfl
theorem MapOk.unmany {φ : SV → SV} {φs : List SV → List SV} (h : MapOk φ φs) {cs : List SV} {X sz c d l} (e : φs cs = [.many X sz c d l]) : cs = [.many X sz c d l] := by
  match cs with
  | [] => rw [h.nil] at e; cases e
  | [x] =>
    rw [h.cons, h.nil] at e
    have e1 : φ x = .many X sz c d l := by simpa using e
    rcases h.many x with ⟨-, e2⟩ | ⟨-, e2⟩
    · rw [← e2, e1]
    · rw [e1] at e2; cases e2
  | a :: b :: r => rw [h.cons, h.cons] at e; simp at e
theorem MapOk.isMany {φ : SV → SV} {φs : List SV → List SV} (h : MapOk φ φs) : ∀ cs, Ax.isMany (φs cs) = Ax.isMany cs
  | [] => by rw [h.nil]
  | x :: xs => by
    rw [h.cons]
    have e : ∀ (y : SV) (ys : List SV), Ax.isMany (y :: ys) = Ax.isMany [y] := fun y ys => rfl
    rw [e, e x]
    rcases h.many x with ⟨-, e⟩ | ⟨e1, e2⟩
    · rw [e]
    · rw [e1, e2]
theorem MapOk.xat {φ : SV → SV} {φs : List SV → List SV} (h : MapOk φ φs) {H' : HM} {β' : BM} {T' : TM} (hH : HLe H H') (hg : ∀ x v, G H β T x v → G H' β' T' (φ x) v) {cs : List SV} (hm : ∀ X sz c d l, cs = [.many X sz c d l] → 0 < sz ∧ ∀ x, (c x).length = sz ∧ imm.imms (c x) = true ∧ allOk (c x) = true)
    {j : Nat} (hj : j < Ax.xlen cs) {v : Value} (e : G H β T (Ax.xat cs j) v) : G H' β' T' (Ax.xat (φs cs) j) v := by
  match cs, hm, hj, e with
  | [x], hm, hj, e =>
    rw [h.cons, h.nil]
    rcases h.many x with ⟨e1, e2⟩ | ⟨e1, e2⟩
    · rw [e2]
      cases x with
      | many X sz c d l =>
        obtain ⟨h0, hx⟩ := hm _ _ _ _ _ rfl
        have e3 : Ax.xat [SV.many X sz c d l] j = at' (c (l.getD (j / sz) d)) (j % sz) .junk := rfl
        rw [e3] at e ⊢
        exact (e.imm (imms_at (hx _).2.1 _ (by rw [(hx _).1]; exact Nat.mod_lt _ h0)) noB noT).mono hH (fun _ _ c => by cases c) (fun _ _ _ c => by cases c)
      | _ => cases e1
    · rw [xat_not e1] at e
      rw [xat_not e2]
      rw [xlen_not e1] at hj
      obtain rfl : j = 0 := by simpa using hj
      exact hg _ _ e
  | a :: b :: r, hm, hj, e =>
    rw [xat_two'] at e
    rw [xlen_two'] at hj
    have := hg _ _ e
    rw [← h.at _ _ hj] at this
    rw [h.cons, h.cons, xat_two']
    rw [h.cons, h.cons] at this
    exact this
/-- cells of a box are written -/
theorem W.setBox (h : W M w0 H0 H β T bx w) {b : Nat} {cs : List SV} (hb : bx.get b none = some cs) (hpl : plain cs = true) {k : Nat} (hk : β b = some k) {o : Nat} {xs : List SV} {vs : List Value}
    (hn : vs.length = xs.length) (ho : o + xs.length ≤ cs.length) (hg : ∀ j, j < xs.length → G H β T (at' xs j .junk) (vs.getD j undef)) :
    W M w0 H0 H β T (bx.put b (some (over o xs cs))) (w.setCells k o vs) := by
  obtain ⟨e1, e0⟩ := xlen_plain hpl
  have hpl2 : plain (over o xs cs) = true := by
    refine plain_of_G (H := H) (β := β) (T := T) (by rw [over_length]; exact e0) ?_
    rw [at'_over _ _ _ _ _ ho]
    by_cases hr : o ≤ 0 ∧ 0 < o + xs.length
    · rw [if_pos hr]
      exact ⟨_, hg _ (by omega)⟩
    · rw [if_neg hr]
      obtain ⟨_, _, _, hj⟩ := h.box b cs hb (by omega)
      obtain ⟨_, _, _, v, _, a5⟩ := hj 0 (by omega)
      rw [xat_plain hpl] at a5
      exact ⟨v, a5⟩
  obtain ⟨e2, -⟩ := xlen_plain hpl2
  refine h.write hb hk (by omega) (by rw [e2, over_length, e1]) ?_ ?_ ?_ (fun Y e => (side_plain hpl2 Y e).elim)
  · intro j hj
    rw [xat_plain hpl2, at'_over _ _ _ _ _ ho, if_pos (by omega), show o + j - o = j by omega]
    exact hg j (by omega)
  · intro j hj hr v hv
    rw [xat_plain hpl2, at'_over _ _ _ _ _ ho, if_neg (by omega)]
    rw [xat_plain hpl] at hv
    exact hv
  · intro X sz c d l e
    rw [e] at hpl2
    cases hpl2
end
end Go.Proofs.Yteccinlmblijfaa.Ax
/- One operation of the logic is right. -/
set_option linter.unusedVariables false
set_option linter.unusedSimpArgs false
namespace Go.Proofs.Yteccinlmblijfaa.Ax
open Go Go.RowKit

def whole (agg : Bool) (l : List SV) : SV := match agg with
  | true => .agg l
  | false => at' l 0 .junk
theorem wholeK_eq (agg : Bool) (l : List SV) (k : SV → Prop) : wholeK agg l k = k (whole agg l) := by
  cases agg
  · simp [wholeK, whole, force_eq]
  · simp [wholeK, whole, forceL_eq]
theorem noB_le (β : BM) : BLe noB β := fun _ _ h => by cases h
theorem noT_le (T : TM) : TLe noT T := fun _ _ _ h => by cases h

theorem cellsK_elim {H : HM} {β : BM} {T : TM} {x : SV} {k : List SV → Prop} (h : cellsK x k) :
    ∃ l, k l ∧ ∀ v, G H β T x v → v.cells.size = l.length ∧ ∀ j, j < l.length → G H β T (at' l j .junk) (v.cells.getD j undef) := by
  have one : ∀ y : SV, (∀ v, G H β T y v → v.cells = #[v]) → ∀ v, G H β T y v → v.cells.size = [y].length ∧ ∀ j, j < [y].length → G H β T (at' [y] j .junk) (v.cells.getD j undef) := by
    intro y hy v hv
    rw [hy v hv]
    refine ⟨rfl, fun j hj => ?_⟩
    obtain rfl : j = 0 := by simpa using hj
    exact hv
  cases x with
  | agg l => exact ⟨l, h, fun v hv => by cases hv with | agg _ vs hn hg => exact ⟨hn, hg⟩⟩
  | tup l => exact h.elim
  | junk => exact h.elim
  | many T sz cs d l => exact h.elim
  | val u =>
    cases u with
    | agg _ => exact h.elim
    | tuple _ => exact h.elim
    | _ => exact ⟨_, h, one _ (fun v hv => by cases hv; rfl)⟩
  | _ => exact ⟨_, h, one _ (fun v hv => by cases hv <;> rfl)⟩
theorem cellOk_one {H : HM} {β : BM} {T : TM} {x : SV} (h : cellOk x = true) {v : Value} (hv : G H β T x v) : v.oneCell' = true := by
  cases hv with
  | val v => cases v <;> first | rfl | (simp [cellOk] at h; done)
  | junk => simp [cellOk] at h
  | agg => simp [cellOk] at h
  | tup => simp [cellOk] at h
  | _ => rfl
theorem allOk_at {l : List SV} (h : allOk l = true) : ∀ j, j < l.length → cellOk (at' l j .junk) = true := by
  induction l with
  | nil => intro j hj; simp at hj
  | cons x xs ih =>
    intro j hj
    unfold allOk at h
    cases hx : cellOk x with
    | false => rw [hx] at h; simp at h
    | true =>
      rw [hx] at h
      cases j with
      | zero => exact hx
      | succ j => exact ih h j (by simpa using hj)
theorem SubL_at : ∀ {a b : List SV}, SubL a b → a.length = b.length ∧ ∀ j, j < b.length → Sub (at' a j .junk) (at' b j .junk)
  | [], [], _ => ⟨rfl, fun j hj => by simp at hj⟩
  | x :: xs, y :: ys, h => by
    obtain ⟨h1, h2⟩ := h
    obtain ⟨hl, hs⟩ := SubL_at h2
    refine ⟨by simp [hl], fun j hj => ?_⟩
    cases j with
    | zero => exact h1
    | succ j => exact hs j (by simpa using hj)
  | [], _ :: _, h => h.elim
  | _ :: _, [], h => h.elim
theorem add_none (b o j : Nat) : (⟨b, o, none⟩ : Addr).add j = ⟨b, o + j, none⟩ := by
  unfold Addr.add; split <;> simp_all

section
variable {P : Program} {w : World}
theorem run_und {t : TypeId} {d : TypeDesc} (h : P.underlying t = some d) : (underlying t).run P w = .ok d w := run_underlying h w
theorem run_isAgg {t : TypeId} {d : TypeDesc} (h : P.underlying t = some d) : (isAgg t).run P w = .ok (isAggD d) w := by
  unfold isAgg
  rw [Sem.run_bind, run_und h]
  cases d <;> rfl
theorem run_size {t : TypeId} {i : TypeInfo} (h : P.info? t = some i) : (sizeOf t).run P w = .ok i.size w := by
  simp [sizeOf, typeInfo, h]
theorem run_loadVar {t : Nat} {ti : TI} (hT : TOk P t ti) (b o : Nat) (f : Nat → Value) (h : ∀ j, j < ti.size → w.cell? ⟨b, o + j, none⟩ = some (f j)) (h1 : ti.agg = false → 0 < ti.size) :
    (loadVar t ⟨b, o, none⟩).run P w = .ok (if ti.agg then .agg ((List.range ti.size).map f).toArray else f 0) w := by
  obtain ⟨d, hd, hag, -⟩ := hT.und
  obtain ⟨i, hi, hsz, -⟩ := hT.inf
  unfold loadVar
  rw [Sem.run_bind, run_isAgg hd, Result.andThen_ok, hag]
  cases ha : ti.agg with
  | true =>
    simp only [if_true, Sem.run_bind, run_size hi, Result.andThen_ok, hsz]
    rw [run_loadCells w _ ti.size f (fun j hj => by rw [add_none]; exact h j hj)]
    rfl
  | false =>
    have := h 0 (h1 ha)
    simp only [Nat.add_zero] at this
    simp only [Bool.false_eq_true, if_false, run_load, this]
end
theorem xat_many {X : Type} {sz : Nat} {c : X → List SV} {d : X} {l : List X} (i r : Nat) (h : r < sz) : xat [.many X sz c d l] (i * sz + r) = at' (c (l.getD i d)) r .junk := by
  show at' (c (l.getD ((i * sz + r) / sz) d)) ((i * sz + r) % sz) .junk = _
  have h1 : (i * sz + r) / sz = i := by rw [Nat.mul_comm, Nat.mul_add_div (by omega), Nat.div_eq_of_lt h, Nat.add_zero]
  have h2 : (i * sz + r) % sz = r := by rw [Nat.mul_comm, Nat.mul_add_mod, Nat.mod_eq_of_lt h]
  rw [h1, h2]
theorem many_lt {sz i n r : Nat} (hi : i < n) (h : r < sz) : i * sz + r < n * sz := by
  have := Nat.mul_le_mul_right sz (show i + 1 ≤ n from hi)
  rw [Nat.add_mul, Nat.one_mul] at this
  omega
theorem whole_G {H : HM} {β : BM} {T : TM} {l : List SV} {n : Nat} (hl : l.length = n) {f : Nat → Value} (h : ∀ j, j < n → G H β T (at' l j .junk) (f j)) (agg : Bool) (h1 : agg = false → 0 < n) :
    G H β T (whole agg l) (if agg then .agg ((List.range n).map f).toArray else f 0) := by
  cases agg with
  | true =>
    refine .agg l _ (by simp [hl]) (fun j hj => ?_)
    have hjn : j < n := by omega
    have e : ((List.range n).map f).toArray.getD j undef = f j := by simp [Array.getD, hjn]
    rw [e]
    exact h j hjn
  | false => exact h 0 (h1 rfl)

/-! ### The operations -/
section
variable {P : Program} {E : Env} {M : BM} {w0 : World} {H0 : HM} {s : ASt} {a : Act} {w : World} {H : HM} {β : BM} {T : TM}

/-- where a step goes on -/
def OnTo (M : BM) (w0 : World) (H0 : HM) (a : Act) (dst : Option Tmp) (k : SV → ASt → Prop) (next : Act → World → Prop) : Prop :=
  ∀ v s' val H' β' T' w', k v s' → FR H' β' T' s'.fr a → W M w0 H0 H' β' T' s'.bx w' → G H' β' T' v val → next (a.put dst val) w'

variable {k : SV → ASt → Prop} {next : Act → World → Prop} {Q : Exit → Act → World → Prop} {o : Oper}

theorem done_val (hf : FR H β T s.fr a) (hw : W M w0 H0 H β T s.bx w) {v : SV} {val : Value} (hk : k v s) (hg : G H β T v val) (hn : OnTo M w0 H0 a o.dst k next)
    (hr : (execOp a.eval o).run P w = .ok (.value val) w) : o.wp P a w next Q := by
  unfold Oper.wp
  rw [hr]
  exact hn _ _ _ _ _ _ _ hk hf hw hg

theorem load_sound (hE : EnvOk P E) (hf : FR H β T s.fr a) (hw : W M w0 H0 H β T s.bx w) (hn : OnTo M w0 H0 a o.dst k next) (t : TypeId) (x : Operand) (ho : o.op = .load t x)
    (hk : tiK E.ty t fun t => loadK t (ev s x) s.bx fun v => k v ⟨s.fr, s.bx⟩) : o.wp P a w next Q := by
  obtain ⟨ti, hti, hk⟩ := tiK_elim hk
  have hT := hE.ty _ _ hti
  have hx := ev_G hf x
  have h1 : ti.agg = false → 0 < ti.size := hT.one
  have run : ∀ (b q : Nat) (f : Nat → Value), a.eval x = .pointer (some ⟨b, q, none⟩) → (∀ j, j < ti.size → w.cell? ⟨b, q + j, none⟩ = some (f j)) →
      (execOp a.eval o).run P w = .ok (.value (if ti.agg then .agg ((List.range ti.size).map f).toArray else f 0)) w := by
    intro b q f hp hc
    unfold execOp
    simp only [ho, Instr.loadAt, hp, Instr.sureAddr, Sem.run_bind, Sem.run_pure, Result.andThen_ok, run_loadVar hT b q f hc h1]
  unfold loadK at hk
  generalize hev : ev s x = p at hk hx
  cases p with
  | box b q =>
    simp only at hk
    cases hb : s.bx.get b none with
    | none => rw [hb] at hk; exact hk.elim
    | some cs =>
      rw [hb] at hk
      simp only at hk
      cases hpl : plain cs with
      | false => rw [hpl] at hk; exact hk.elim
      | true =>
      rw [hpl] at hk
      simp only at hk
      obtain ⟨hx1, hx0⟩ := xlen_plain hpl
      cases hle : Nat.ble (q + ti.size) cs.length with
      | false => rw [hle] at hk; exact hk.elim
      | true =>
        rw [hle] at hk
        simp only [wholeK_eq] at hk
        have hle' := Nat.le_of_ble_eq_true hle
        generalize hav : a.eval x = val at hx
        cases hx with
        | box _ _ kk hβ =>
          obtain ⟨k2, hk2, -, hj⟩ := hw.box b cs hb (by omega)
          obtain rfl : kk = k2 := Option.some.inj (hβ.symm.trans hk2)
          have hc : ∀ j, ∃ v, j < ti.size → w.cell? ⟨kk, q + j, none⟩ = some v ∧ G H β T (at' cs (q + j) .junk) v := fun j => by
            by_cases hlt : j < ti.size
            · obtain ⟨-, -, -, v, h4, h5⟩ := hj (q + j) (by omega)
              rw [xat_plain hpl] at h5
              exact ⟨v, fun _ => ⟨h4, h5⟩⟩
            · exact ⟨undef, fun c => absurd c hlt⟩
          refine done_val hf hw hk (whole_G (takeDrop_length cs ti.size q hle') (f := fun j => Classical.choose (hc j)) (fun j hlt => ?_) ti.agg h1) hn (run kk q _ hav fun j hlt => (Classical.choose_spec (hc j) hlt).1)
          rw [at'_takeDrop _ _ _ _ _ hlt]
          exact (Classical.choose_spec (hc j) hlt).2
  | plc b z i q =>
    simp only at hk
    cases hb : s.bx.get b none with
    | none => rw [hb] at hk; exact hk.elim
    | some cs =>
      rw [hb] at hk
      simp only at hk
      obtain ⟨X, sz, c, d, l, e, hkm⟩ := manyK_elim hk
      subst e
      replace hk := hkm
      clear hkm
      cases hbe : Nat.beq z sz with
      | false => rw [hbe] at hk; exact hk.elim
      | true =>
      rw [hbe] at hk
      simp only at hk
      obtain rfl := Nat.eq_of_beq_eq_true hbe
      cases hle : Nat.ble (q + ti.size) z with
      | false => rw [hle] at hk; exact hk.elim
      | true =>
      rw [hle] at hk
      simp only at hk
      cases hfree : ownFree.ownFrees (takeN ti.size (dropN q (c (l.getD i.toNat d)))) with
      | false => rw [hfree] at hk; exact hk.elim
      | true =>
      rw [hfree] at hk
      simp only [wholeK_eq] at hk
      obtain ⟨⟨hi0, hil⟩, hk⟩ := hk
      have hle' := Nat.le_of_ble_eq_true hle
      obtain ⟨hz0, hzz⟩ := hw.many _ _ _ _ _ _ hb
      generalize hav : a.eval x = val at hx
      cases hx with
      | plc _ _ _ _ kk _ hβ =>
        obtain ⟨k2, hk2, -, hj⟩ := hw.box b _ hb (show 0 < l.length * z from Nat.mul_pos (by omega) hz0)
        obtain rfl : kk = k2 := Option.some.inj (hβ.symm.trans hk2)
        have hc : ∀ j, ∃ v, j < ti.size → w.cell? ⟨kk, i.toNat * z + q + j, none⟩ = some v ∧ G H β T (at' (c (l.getD i.toNat d)) (q + j) .junk) v := fun j => by
          by_cases hlt : j < ti.size
          · obtain ⟨-, -, -, v, h4, h5⟩ := hj (i.toNat * z + (q + j)) (many_lt (by omega) (by omega))
            rw [xat_many _ _ (by omega)] at h5
            exact ⟨v, fun _ => ⟨by rw [Nat.add_assoc]; exact h4, h5⟩⟩
          · exact ⟨undef, fun c => absurd c hlt⟩
        refine done_val hf hw hk (whole_G (takeDrop_length _ ti.size q (by rw [(hzz _).1]; exact hle')) (f := fun j => Classical.choose (hc j)) (fun j hlt => ?_) ti.agg h1) hn (run kk (i.toNat * z + q) _ hav fun j hlt => (Classical.choose_spec (hc j) hlt).1)
        rw [at'_takeDrop _ _ _ _ _ hlt]
        exact (Classical.choose_spec (hc j) hlt).2
  | elt X z cs d l i q =>
    simp only at hk
    cases hle : Nat.ble (q + ti.size) z with
    | false => rw [hle] at hk; exact hk.elim
    | true =>
      rw [hle] at hk
      simp only at hk
      cases hfree : ownFree.ownFrees (takeN ti.size (dropN q (cs (l.getD i.toNat d)))) with
      | false => rw [hfree] at hk; exact hk.elim
      | true =>
      rw [hfree] at hk
      simp only [wholeK_eq] at hk
      have hle' := Nat.le_of_ble_eq_true hle
      generalize hav : a.eval x = val at hx
      cases hx with
      | elt _ _ _ _ _ _ _ b p vs hz hH hG =>
        refine done_val hf hw hk (whole_G (takeDrop_length _ ti.size q (by omega)) (f := fun j => vs (q + j)) (fun j hlt => ?_) ti.agg h1) hn (run b (p + q) _ hav fun j hlt => ?_)
        · rw [at'_takeDrop _ _ _ _ _ hlt]
          exact (hG (q + j) (by omega)).mono (.refl _) (noB_le _) (noT_le _)
        · rw [Nat.add_assoc]
          exact (hw.lies _ _ _ (hH (q + j) (by omega))).1
  | _ => exact hk.elim

theorem getD_get (l : List Value) (j : Nat) (h : j < l.length) : l.getD j undef = l[j] := by simp [List.getD, h]
theorem getD_toList (cs : Array Value) (j : Nat) : cs.toList.getD j undef = cs.getD j undef := by
  simp [List.getD, Array.getD_eq_getD_getElem?]

theorem store_sound (hE : EnvOk P E) (hf : FR H β T s.fr a) (hw : W M w0 H0 H β T s.bx w) (hn : OnTo M w0 H0 a o.dst k next) (t : TypeId) (x y : Operand) (ho : o.op = .store t x y)
    (hk : tiK E.ty t fun t => storeK t (ev s x) (ev s y) s.bx fun bx => k (.val undef) ⟨s.fr, bx⟩) : o.wp P a w next Q := by
  obtain ⟨ti, hti, hk⟩ := tiK_elim hk
  have hT := hE.ty _ _ hti
  have hx := ev_G hf x
  have hy := ev_G hf y
  unfold storeK at hk
  generalize hev : ev s x = p at hk hx
  cases p with
  | box b q =>
    simp only at hk
    cases hb : s.bx.get b none with
    | none => rw [hb] at hk; exact hk.elim
    | some cs =>
      rw [hb] at hk
      simp only at hk
      cases hpl : plain cs with
      | false => rw [hpl] at hk; exact hk.elim
      | true =>
      rw [hpl] at hk
      simp only at hk
      obtain ⟨hx1, hx0⟩ := xlen_plain hpl
      obtain ⟨l, hk, hl⟩ := cellsK_elim (H := H) (β := β) (T := T) hk
      obtain ⟨hsz, hg⟩ := hl _ hy
      cases hok : allOk l with
      | false => rw [hok] at hk; exact hk.elim
      | true =>
        rw [hok] at hk
        simp only at hk
        cases hbe : Nat.beq l.length ti.size with
        | false => rw [hbe] at hk; exact hk.elim
        | true =>
          rw [hbe] at hk
          simp only at hk
          have hbe' := Nat.eq_of_beq_eq_true hbe
          cases hle : Nat.ble (q + l.length) cs.length with
          | false => rw [hle] at hk; exact hk.elim
          | true =>
            rw [hle] at hk
            simp only [forceL_eq, Tr.putK_eq] at hk
            have hle' := Nat.le_of_ble_eq_true hle
            generalize hav : a.eval x = val at hx
            cases hx with
            | box _ _ kk hβ =>
              obtain ⟨k2, hk2, -, hj⟩ := hw.box b cs hb (by omega)
              obtain rfl : kk = k2 := Option.some.inj (hβ.symm.trans hk2)
              obtain ⟨i, hi, hisz, -⟩ := hT.inf
              have hlen : (a.eval y).cells.toList.length = l.length := by simpa using hsz
              have hw' := hw.setBox hb hpl hβ (o := q) (xs := l) (vs := (a.eval y).cells.toList) hlen hle' (fun j hj => by rw [getD_toList]; exact hg j hj)
              have hst : (storeCells ⟨kk, q, none⟩ (a.eval y).cells.toList 0).run P w = .ok () (w.setCells kk (q + 0) (a.eval y).cells.toList) :=
                run_storeCells_cells kk q _ 0 w (fun j hjl => by
                    obtain ⟨-, -, -, v, h4, -⟩ := hj (q + j) (by omega)
                    rw [Nat.add_zero, h4]; rfl)
                  (fun j hjl => by rw [Nat.add_zero]; exact (hj (q + j) (by omega)).2.2.1)
                  (fun v hv => by
                    obtain ⟨j, hj1, rfl⟩ := List.getElem_of_mem hv
                    have h2 := hg j (by omega)
                    have h3 := cellOk_one (allOk_at hok j (by omega)) h2
                    rw [← getD_toList, getD_get _ _ hj1] at h3
                    exact h3)
              have hrun : (execOp a.eval o).run P w = .ok .skip (w.setCells kk q (a.eval y).cells.toList) := by
                unfold execOp
                simp only [ho, Instr.storeAt, hav, Instr.sureAddr, Sem.run_bind, Sem.run_pure, Result.andThen_ok, storeVar, run_size hi]
                rw [if_neg (by omega)]
                rw [show (storeCells ⟨kk, q, none⟩ (a.eval y).cells.toList).run P w = _ from hst]
                rfl
              unfold Oper.wp
              rw [hrun]
              exact hn _ _ _ H β T _ hk hf hw' .undef
  | plc b z i q =>
    simp only at hk
    cases hb : s.bx.get b none with
    | none => rw [hb] at hk; exact hk.elim
    | some cs =>
      rw [hb] at hk
      simp only at hk
      obtain ⟨X, sz, c, d, r, e, hkm⟩ := manyK_elim hk
      subst e
      replace hk := hkm
      clear hkm
      cases hbz : Nat.beq z sz with
      | false => rw [hbz] at hk; exact hk.elim
      | true =>
      rw [hbz] at hk
      simp only at hk
      obtain rfl := Nat.eq_of_beq_eq_true hbz
      obtain ⟨l, hk, hl⟩ := cellsK_elim (H := H) (β := β) (T := T) hk
      obtain ⟨hsz, hg⟩ := hl _ hy
      cases hok : allOk l with
      | false => rw [hok] at hk; exact hk.elim
      | true =>
        rw [hok] at hk
        simp only at hk
        cases hbe : Nat.beq l.length ti.size with
        | false => rw [hbe] at hk; exact hk.elim
        | true =>
          rw [hbe] at hk
          simp only at hk
          have hbe' := Nat.eq_of_beq_eq_true hbe
          cases hle : Nat.ble (q + l.length) z with
          | false => rw [hle] at hk; exact hk.elim
          | true =>
            rw [hle] at hk
            simp only [Tr.putK_eq] at hk
            obtain ⟨⟨hi0, hil⟩, nx, hsub, hk⟩ := hk
            have hle' := Nat.le_of_ble_eq_true hle
            obtain ⟨hz0, hzz⟩ := hw.many _ _ _ _ _ _ hb
            obtain ⟨hs1, hs2⟩ := SubL_at hsub
            generalize hav : a.eval x = val at hx
            cases hx with
            | plc _ _ _ _ kk _ hβ =>
              have hxl : xlen [SV.many X z c d r] = r.length * z := rfl
              obtain ⟨k2, hk2, -, hj⟩ := hw.box b _ hb (show 0 < r.length * z from Nat.mul_pos (by omega) hz0)
              obtain rfl : kk = k2 := Option.some.inj (hβ.symm.trans hk2)
              obtain ⟨i', hi, hisz, -⟩ := hT.inf
              have hlen : (a.eval y).cells.toList.length = l.length := by simpa using hsz
              have hil' : i.toNat < r.length := by omega
              have hcl := (hzz (r.getD i.toNat d)).1
              have hin : ∀ j, j < l.length → i.toNat * z + q + j < r.length * z := fun j hj => by
                rw [Nat.add_assoc]; exact many_lt hil' (by omega)
              have hget : ∀ n, (r.set i.toNat nx).getD n d = if n = i.toNat then nx else r.getD n d := by
                intro n
                rw [List.getD_eq_getElem?_getD, List.getD_eq_getElem?_getD, List.getElem?_set]
                by_cases hn : i.toNat = n
                · rw [if_pos hn, if_pos hn.symm, if_pos hil']; rfl
                · rw [if_neg hn, if_neg (fun e => hn e.symm)]
              have hw' := hw.write hb hβ (p := i.toNat * z + q) (vs := (a.eval y).cells.toList) (cs' := [.many X z c d (r.set i.toNat nx)]) (by
                  rw [hlen, hxl]
                  have := Nat.mul_le_mul_right z (show i.toNat + 1 ≤ r.length from hil')
                  rw [Nat.add_mul, Nat.one_mul] at this
                  omega) (by show (r.set i.toNat nx).length * z = r.length * z; rw [List.length_set]) (fun j hj => by
                    rw [Nat.add_assoc, xat_many _ _ (by omega), hget, if_pos rfl, getD_toList]
                    refine G.sub (hs2 _ (by rw [(hzz _).1]; omega)) ?_
                    rw [at'_over _ _ _ _ _ (by rw [hcl]; exact hle'), if_pos (by omega), show q + j - q = j by omega]
                    exact hg j (by omega)) (fun j hj hr v hv => by
                    have hjr : j = j / z * z + j % z := by rw [Nat.mul_comm]; exact (Nat.div_add_mod j z).symm
                    have hjm := Nat.mod_lt j hz0
                    rw [hjr, xat_many _ _ hjm] at hv ⊢
                    rw [hget]
                    by_cases hn : j / z = i.toNat
                    · rw [if_pos hn]
                      rw [hn] at hv hjr
                      refine G.sub (hs2 _ (by rw [(hzz _).1]; exact hjm)) ?_
                      rw [at'_over _ _ _ _ _ (by rw [hcl]; exact hle'), if_neg (by omega)]
                      exact hv
                    · rw [if_neg hn]; exact hv) (fun X' sz' c' d' l' e => by cases e; exact hw.many _ _ _ _ _ _ hb) (side_set (List.length_set ..))
              have hst : (storeCells ⟨kk, i.toNat * z + q, none⟩ (a.eval y).cells.toList 0).run P w = .ok () (w.setCells kk (i.toNat * z + q + 0) (a.eval y).cells.toList) :=
                run_storeCells_cells kk _ _ 0 w (fun j hjl => by
                    obtain ⟨-, -, -, v, h4, -⟩ := hj (i.toNat * z + q + j) (hin j (by omega))
                    rw [Nat.add_zero, h4]; rfl)
                  (fun j hjl => by rw [Nat.add_zero]; exact (hj (i.toNat * z + q + j) (hin j (by omega))).2.2.1)
                  (fun v hv => by
                    obtain ⟨j, hj1, rfl⟩ := List.getElem_of_mem hv
                    have h2 := hg j (by omega)
                    have h3 := cellOk_one (allOk_at hok j (by omega)) h2
                    rw [← getD_toList, getD_get _ _ hj1] at h3
                    exact h3)
              have hrun : (execOp a.eval o).run P w = .ok .skip (w.setCells kk (i.toNat * z + q) (a.eval y).cells.toList) := by
                unfold execOp
                simp only [ho, Instr.storeAt, hav, Instr.sureAddr, Sem.run_bind, Sem.run_pure, Result.andThen_ok, storeVar, run_size hi]
                rw [if_neg (by omega)]
                rw [show (storeCells ⟨kk, i.toNat * z + q, none⟩ (a.eval y).cells.toList).run P w = _ from hst]
                rfl
              unfold Oper.wp
              rw [hrun]
              exact hn _ _ _ H β T _ hk hf hw' .undef
  | _ => exact hk.elim

theorem alloc_sound (hE : EnvOk P E) (hf : FR H β T s.fr a) (hw : W M w0 H0 H β T s.bx w) (hn : OnTo M w0 H0 a o.dst k next) (t : TypeId) (ho : o.op = .alloc t)
    (hk : stepK E (dOf o.dst) (.alloc t) s k) : o.wp P a w next Q := by
  simp only [stepK, stepB] at hk
  cases hdm : Nat.blt (dOf o.dst) 1000 with
  | false => rw [hdm] at hk; exact hk.elim
  | true =>
  rw [hdm] at hk
  simp only at hk
  cases hd : s.bx.get (dOf o.dst) (some []) with
  | some _ => rw [hd] at hk; exact hk.elim
  | none =>
    rw [hd] at hk
    obtain ⟨ti, hti, hk⟩ := tiK_elim hk
    have hT := hE.ty _ _ hti
    obtain ⟨i, hi, hsz, -, hz⟩ := hT.inf
    cases hzero : ti.zero with
    | nil => rw [hzero] at hk; exact hk.elim
    | cons z zs =>
      rw [hzero] at hk
      simp only [forceL_eq, Tr.putK_eq] at hk
      obtain ⟨zv, hzv, hcells⟩ := hz (by rw [hzero]; simp)
      rw [hzero] at hcells
      obtain ⟨hle, hw'⟩ := hw.newPlain hdm hd (cs := (z :: zs).map SV.val) rfl (vs := zv.cells) (t := t) (by rw [← Array.length_toList, hcells]; simp) (fun j hj => by
        have hjl : j < (z :: zs).length := by simpa using hj
        have e : at' ((z :: zs).map SV.val) j .junk = .val ((z :: zs)[j]) := by rw [at'_get _ _ _ hj, List.getElem_map]
        have e2 : zv.cells.getD j undef = (z :: zs)[j] := by rw [← getD_toList, hcells, getD_get _ _ hjl]
        rw [e, e2]; exact .val _)
      have hrun : (execOp a.eval o).run P w = .ok (.value (.pointer (some ⟨w.heap.size, 0, none⟩))) (w.alloc (.cells zv.cells t)) := by
        unfold execOp
        simp [ho, Instr.alloc, zeroValue, typeInfo, hi, hzv, newVar, newRow]
      unfold Oper.wp
      rw [hrun]
      exact hn _ _ _ H _ T _ hk (hf.mono (.refl _) hle (.refl _)) hw' (.box _ _ _ (by simp [bset]))

theorem box_sound (hf : FR H β T s.fr a) (hw : W M w0 H0 H β T s.bx w) (hn : OnTo M w0 H0 a o.dst k next) (t : TypeId) (x : Operand) (ho : o.op = .box t x)
    (hk : stepK E (dOf o.dst) (.box t x) s k) : o.wp P a w next Q := by
  simp only [stepK, stepB] at hk
  cases hdm : Nat.blt (dOf o.dst) 1000 with
  | false => rw [hdm] at hk; exact hk.elim
  | true =>
  rw [hdm] at hk
  simp only at hk
  cases hd : s.bx.get (dOf o.dst) (some []) with
  | some _ => rw [hd] at hk; exact hk.elim
  | none =>
    rw [hd] at hk
    obtain ⟨l, hk, hl⟩ := cellsK_elim (H := H) (β := β) (T := T) hk
    cases hpl : plain l with
    | false => rw [hpl] at hk; exact hk.elim
    | true =>
    rw [hpl] at hk
    simp only [Tr.putK_eq] at hk
    obtain ⟨hsz, hg⟩ := hl _ (ev_G hf x)
    obtain ⟨hle, hw'⟩ := hw.newPlain hdm hd (cs := l) hpl (vs := (a.eval x).cells) (t := t) hsz hg
    have hrun : (execOp a.eval o).run P w = .ok (.value (.pointer (some ⟨w.heap.size, 0, none⟩))) (w.alloc (.cells (a.eval x).cells t)) := by
      unfold execOp
      simp [ho, Instr.box, newVar, newRow]
    unfold Oper.wp
    rw [hrun]
    exact hn _ _ _ H _ T _ hk (hf.mono (.refl _) hle (.refl _)) hw' (.box _ _ _ (by simp [bset]))

theorem fieldAddr_sound (hE : EnvOk P E) (hf : FR H β T s.fr a) (hw : W M w0 H0 H β T s.bx w) (hn : OnTo M w0 H0 a o.dst k next) (t : TypeId) (x : Operand) (f : Nat) (ho : o.op = .fieldAddr t x f)
    (hk : stepK E (dOf o.dst) (.fieldAddr t x f) s k) : o.wp P a w next Q := by
  have hx := ev_G hf x
  have run : ∀ (ti : TI) (q u b p : Nat), TOk P t ti → ti.flds[f]? = some (q, u) → a.eval x = .pointer (some ⟨b, p, none⟩) →
      (execOp a.eval o).run P w = .ok (.value (.pointer (some ⟨b, p + q, none⟩))) w := by
    intro ti q u b p hT hq hp
    obtain ⟨d, hd, -, -, -, -, hfl⟩ := hT.und
    obtain ⟨fs, fd, rfl, hfd, rfl, rfl, i, hi, hne⟩ := hfl f q u hq
    unfold execOp
    simp [ho, Instr.fieldAt, run_und hd, hfd, hp, Instr.sureAddr, fieldPlace, run_size hi, hne, add_none]
  simp only [stepK, stepB] at hk
  generalize hev : ev s x = p at hk hx
  cases p with
  | box b q =>
    obtain ⟨ti, hti, hk⟩ := tiK_elim hk
    obtain ⟨q', u, hq, hk⟩ := fldK_elim hk
    generalize hav : a.eval x = val at hx
    cases hx with
    | box _ _ kk hβ => exact done_val hf hw hk (.box _ _ _ hβ) hn (run ti q' u kk q (hE.ty _ _ hti) hq hav)
  | plc b z i q =>
    obtain ⟨ti, hti, hk⟩ := tiK_elim hk
    obtain ⟨q', u, hq, hk⟩ := fldK_elim hk
    generalize hav : a.eval x = val at hx
    cases hx with
    | plc _ _ _ _ kk hi hβ =>
      refine done_val hf hw hk (.plc _ _ _ _ _ hi hβ) hn ?_
      rw [← Nat.add_assoc]
      exact run ti q' u kk (i.toNat * z + q) (hE.ty _ _ hti) hq hav
  | elt X z cs d l i q =>
    obtain ⟨ti, hti, hk⟩ := tiK_elim hk
    obtain ⟨q', u, hq, hk⟩ := fldK_elim hk
    generalize hav : a.eval x = val at hx
    cases hx with
    | elt _ _ _ _ _ _ _ b p vs hz hH hG =>
      refine done_val hf hw hk ?_ hn (run ti q' u b (p + q) (hE.ty _ _ hti) hq hav)
      rw [Nat.add_assoc]
      exact .elt X z cs d l i (q + q') b p vs hz hH hG
  | _ => exact hk.elim

theorem field_sound (hE : EnvOk P E) (hf : FR H β T s.fr a) (hw : W M w0 H0 H β T s.bx w) (hn : OnTo M w0 H0 a o.dst k next) (t : TypeId) (x : Operand) (f : Nat) (ho : o.op = .field t x f)
    (hk : stepK E (dOf o.dst) (.field t x f) s k) : o.wp P a w next Q := by
  have hx := ev_G hf x
  simp only [stepK, stepB] at hk
  generalize hev : ev s x = p at hk hx
  cases p with
  | agg l =>
    obtain ⟨ti, hti, hk⟩ := tiK_elim hk
    obtain ⟨q, u, hq, hk1⟩ := fldK_elim hk
    clear hk
    obtain ⟨ui, hui, hk⟩ := tiK_elim hk1
    clear hk1
    cases hle : Nat.ble (q + ui.size) l.length with
    | false => rw [hle] at hk; exact hk.elim
    | true =>
      rw [hle] at hk
      simp only [wholeK_eq] at hk
      have hle' := Nat.le_of_ble_eq_true hle
      have hT := hE.ty _ _ hti
      have hU := hE.ty _ _ hui
      obtain ⟨d, hd, -, -, -, -, hfl⟩ := hT.und
      obtain ⟨fs, fd, rfl, hfd, rfl, rfl, -⟩ := hfl f q u hq
      obtain ⟨d', hd', hag, -⟩ := hU.und
      obtain ⟨i', hi', hsz', -⟩ := hU.inf
      generalize hav : a.eval x = val at hx
      cases hx with
      | agg _ vs hvn hg =>
        have h1 := hU.one
        refine done_val hf hw hk (whole_G (takeDrop_length l ui.size fd.offset hle') (f := fun j => vs.getD (fd.offset + j) undef) (fun j hj => ?_) ui.agg h1) hn ?_
        · rw [at'_takeDrop _ _ _ _ _ hj]; exact hg _ (by omega)
        · unfold execOp
          simp only [ho, Instr.field, run_und hd, hfd, hav, asAgg, Sem.run_bind, Sem.run_pure, Result.andThen_ok, part, run_isAgg hd', hag]
          cases hagg : ui.agg with
          | true =>
            simp only [if_true, Sem.run_bind, run_size hi', hsz', Sem.run_pure, Result.andThen_ok]
            congr 3
            apply Array.ext'
            apply List.ext_getElem?
            intro j
            by_cases hj : j < ui.size
            · have : fd.offset + j < vs.size := by omega
              simp [hj, this]
              try omega
            · simp [hj]
              try omega
          | false =>
            have hlt : fd.offset < vs.size := by have := h1 hagg; omega
            simp [hlt]
  | _ => exact hk.elim

theorem indexAddr_sound (hE : EnvOk P E) (hf : FR H β T s.fr a) (hw : W M w0 H0 H β T s.bx w) (hn : OnTo M w0 H0 a o.dst k next) (t : TypeId) (x i : Operand) (ho : o.op = .indexAddr t x i)
    (hk : stepK E (dOf o.dst) (.indexAddr t x i) s k) : o.wp P a w next Q := by
  have hx := ev_G hf x
  have hi := ev_G hf i
  have run : ∀ (ti ui : TI) (kk : IntKind) (n : Int) (b p c len : Nat), TOk P t ti → TOk P ti.elem ui → ti.slice = true → 0 ≤ n → n < (len : Int) → a.eval i = .int kk n → a.eval x = .slice (some ⟨b, p, none⟩) len c →
      (execOp a.eval o).run P w = .ok (.value (.pointer (some ⟨b, p + n.toNat * ui.size + 0, none⟩))) w := by
    intro ti ui kk n b p c len hT hU hs h0 h1 hai hax
    obtain ⟨d, hd, -, hsl, -⟩ := hT.und
    obtain rfl := hsl hs
    obtain ⟨i', hi', hsz', -⟩ := hU.inf
    unfold execOp
    simp [ho, Instr.indexAt, hai, hax, asIntOf, run_und hd, h0, h1, run_size hi', hsz', add_none]
  simp only [stepK, stepB] at hk
  generalize hevi : ev s i = pi at hk hi
  cases pi with
  | val v =>
    cases v with
    | int kk n =>
      simp only at hk
      generalize hev : ev s x = p at hk hx
      generalize hai : a.eval i = vi at hi
      cases hi
      generalize hax : a.eval x = vx at hx
      cases p with
      | row X z cs d l =>
        obtain ⟨ti, hti, hk⟩ := tiK_elim hk
        obtain ⟨ui, hui, hk⟩ := tiK_elim hk
        cases hz : Nat.beq z ui.size with
        | false => rw [hz] at hk; exact hk.elim
        | true =>
          rw [hz] at hk
          obtain rfl := Nat.eq_of_beq_eq_true hz
          cases hs : ti.slice with
          | false => simp [hs] at hk
          | true =>
            simp only [hs] at hk
            obtain ⟨⟨h0, h1⟩, hk⟩ := hk
            cases hx with
            | rowE => simp at h1; omega
            | row _ _ _ _ _ b off c vs hc hzz hH hG =>
              refine done_val hf hw hk ?_ hn (run ti ui kk n b off c l.length (hE.ty _ _ hti) (hE.ty _ _ hui) hs h0 h1 hai hax)
              exact .elt X _ cs d l n 0 b (off + n.toNat * ui.size) (fun j => vs n.toNat j) (hzz _ (by omega)) (fun j hj => hH _ _ (by omega) hj) (fun j hj => hG _ _ (by omega) hj)
      | own X z cs d l id =>
        obtain ⟨ti, hti, hk⟩ := tiK_elim hk
        obtain ⟨ui, hui, hk⟩ := tiK_elim hk
        cases hz : Nat.beq z ui.size with
        | false => rw [hz] at hk; exact hk.elim
        | true =>
          rw [hz] at hk
          obtain rfl := Nat.eq_of_beq_eq_true hz
          cases hs : ti.slice with
          | false => simp [hs] at hk
          | true =>
            simp only [hs] at hk
            obtain ⟨⟨h0, h1⟩, hk⟩ := hk
            cases hx with
            | ownE => simp at h1; omega
            | own _ _ _ _ _ _ b off c vs hc hzz hH hG hT =>
              refine done_val hf hw hk ?_ hn (run ti ui kk n b off c l.length (hE.ty _ _ hti) (hE.ty _ _ hui) hs h0 h1 hai hax)
              exact .elt X _ cs d l n 0 b (off + n.toNat * ui.size) (fun j => vs n.toNat j) (hzz _ (by omega)) (fun j hj => hH _ _ (by omega) hj) (fun j hj => hG _ _ (by omega) hj)
      | arr b z q m cap =>
        obtain ⟨ti, hti, hk⟩ := tiK_elim hk
        obtain ⟨ui, hui, hk⟩ := tiK_elim hk
        cases hz : Nat.beq z ui.size with
        | false => rw [hz] at hk; exact hk.elim
        | true =>
          rw [hz] at hk
          obtain rfl := Nat.eq_of_beq_eq_true hz
          cases hs : ti.slice with
          | false => simp [hs] at hk
          | true =>
            simp only [hs] at hk
            obtain ⟨⟨h0, h1⟩, hk⟩ := hk
            cases hx with
            | arrE => simp at h1; omega
            | arr _ _ _ _ _ kb c hβ hc he =>
              refine done_val hf hw hk (.plc b ui.size ((q : Int) + n) 0 kb (by omega) hβ) hn ?_
              have := run ti ui kk n kb (q * ui.size) c m (hE.ty _ _ hti) (hE.ty _ _ hui) hs h0 h1 hai hax
              rw [this, show ((q : Int) + n).toNat = q + n.toNat by omega, Nat.add_mul]
      | _ => exact hk.elim
    | _ => exact hk.elim
  | _ => exact hk.elim

theorem pick_sound (hf : FR H β T s.fr a) (hw : W M w0 H0 H β T s.bx w) (hn : OnTo M w0 H0 a o.dst k next) (c x y : Operand) (ho : o.op = .pick c x y)
    (hk : stepK E (dOf o.dst) (.pick c x y) s k) : o.wp P a w next Q := by
  have hc := ev_G hf c
  simp only [stepK, stepB] at hk
  generalize hev : ev s c = p at hk hc
  cases p with
  | tt =>
    simp only [force_eq] at hk
    generalize hav : a.eval c = val at hc
    cases hc
    exact done_val hf hw hk (ev_G hf x) hn (by unfold execOp; simp [ho, hav, asBool])
  | ff =>
    simp only [force_eq] at hk
    generalize hav : a.eval c = val at hc
    cases hc
    exact done_val hf hw hk (ev_G hf y) hn (by unfold execOp; simp [ho, hav, asBool])
  | _ => exact hk.elim

theorem extract_sound (hf : FR H β T s.fr a) (hw : W M w0 H0 H β T s.bx w) (hn : OnTo M w0 H0 a o.dst k next) (x : Operand) (i : Nat) (ho : o.op = .extract x i)
    (hk : stepK E (dOf o.dst) (.extract x i) s k) : o.wp P a w next Q := by
  have hx := ev_G hf x
  simp only [stepK, stepB] at hk
  generalize hev : ev s x = p at hk hx
  cases p with
  | tup l =>
    simp only [force_eq] at hk
    cases hb : Nat.blt i l.length with
    | false => rw [hb] at hk; exact hk.elim
    | true =>
      rw [hb] at hk
      have hlt : i < l.length := by simpa [Nat.blt_eq] using hb
      generalize hav : a.eval x = val at hx
      cases hx with
      | tup _ vs hvn hg =>
        refine done_val hf hw hk (hg i hlt) hn ?_
        unfold execOp
        have : i < vs.size := by omega
        simp [ho, hav, Instr.extract, this]
  | _ => exact hk.elim
end
end Go.Proofs.Yteccinlmblijfaa.Ax
