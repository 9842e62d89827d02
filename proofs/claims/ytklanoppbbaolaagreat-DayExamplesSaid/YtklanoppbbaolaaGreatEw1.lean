/- A closed run: a machine on data, its values named by blocks of our own. No program is named here. -/
import Derived.WalkKit
import Derived.DeepKeys3
namespace Go.Proofs.YtklanoppbbaolaaGreat
open Go
set_option linter.unusedVariables false
/-- A tree by numbers. -/
inductive Tr (α : Type) where
  | lf
  | nd (l : Tr α) (v : Option α) (r : Tr α)
namespace Tr
variable {α : Type}
def get : Tr α → Nat → Option α
  | .lf, _ => none
  | .nd l v r, n => match n with
    | 0 => v
    | m + 1 => match Nat.beq (m % 2) 0 with
      | true => l.get (m / 2)
      | false => r.get (m / 2)
def set : Nat → Tr α → Nat → Option α → Tr α
  | 0, t, _, _ => t
  | f + 1, .lf, n, x => match n with
    | 0 => .nd .lf x .lf
    | m + 1 => match Nat.beq (m % 2) 0 with
      | true => .nd (set f .lf (m / 2) x) none .lf
      | false => .nd .lf none (set f .lf (m / 2) x)
  | f + 1, .nd l v r, n, x => match n with
    | 0 => .nd l x r
    | m + 1 => match Nat.beq (m % 2) 0 with
      | true => .nd (set f l (m / 2) x) v r
      | false => .nd l v (set f r (m / 2) x)
end Tr
def FU : Nat := 24
/-- A value, its blocks by numbers of our own. -/
inductive AV where
  | v (x : Value)
  | ptr (b o : Nat)
  | sl (b o e len : Nat)
  | sk (b o len cap : Nat)
  | agg (l : List AV)
  | tup (l : List AV)
  | fn (f : FuncId) (fst caps : List AV)
  | yl (b : Nat)
  | mp (b : Nat)
  | ifc (t : TypeId) (a : AV)
/-- What lies in a block: cells as far as they are known, their type, the cells of an element, and whether nothing lies behind; or a loop over a function; its mark; or a map. -/
inductive Ob where
  | c (cs : List AV) (t : TypeId) (sz : Nat) (ex : Bool)
  | lp (st : LoopState) (pend : Option Code) (fn : FuncId) (T : Tr AV) (tz : Nat) (params : Array Tmp) (assign body : Code) (d : Nat)
  | df
  | mp (es : List (AV × AV))
/-- Memory; the number of blocks so far; the blocks below r are only read. -/
structure Hp where
  m : Tr Ob
  n : Nat
  r : Nat
def Hp.get (H : Hp) (b : Nat) : Option Ob := H.m.get b
def Hp.put (H : Hp) (b : Nat) (k : Ob) : Hp := ⟨H.m.set FU b (some k), H.n, H.r⟩
def Hp.drop (H : Hp) (b : Nat) : Hp := ⟨H.m.set FU b none, H.n, H.r⟩
def Hp.new (H : Hp) (k : Ob) : Hp := ⟨H.m.set FU H.n (some k), H.n + 1, H.r⟩
def Hp.putO (H : Hp) (b : Nat) (k : Ob) : Option Hp := match Nat.ble H.r b with
  | true => some (H.put b k)
  | false => none
def AV.cells : AV → List AV
  | .agg l => l
  | .v y => y.cells.toList.map .v
  | a => [a]
def AV.one : AV → Bool
  | .v y => match y with | .agg _ => false | .tuple _ => false | _ => true
  | .agg _ => false
  | .tup _ => false
  | _ => true
def allOne : List AV → Bool
  | [] => true
  | a :: l => match a.one with
    | true => allOne l
    | false => false
def setC : List AV → Nat → List AV → List AV
  | [], _, _ => []
  | y :: l, o + 1, m => y :: setC l o m
  | y :: l, 0, [] => y :: l
  | y :: l, 0, a :: m => a :: setC l 0 m
def dropN {α : Type} : Nat → List α → List α
  | 0, l => l
  | _ + 1, [] => []
  | n + 1, _ :: l => dropN n l
def takeN {α : Type} : Nat → List α → List α
  | 0, _ => []
  | _ + 1, [] => []
  | n + 1, a :: l => a :: takeN n l
def lenL {α : Type} : List α → Nat
  | [] => 0
  | _ :: l => lenL l + 1
def nthL {α : Type} : List α → Nat → Option α
  | [], _ => none
  | a :: _, 0 => some a
  | _ :: l, n + 1 => nthL l n
def ldC (H : Hp) (b o n : Nat) : Option (List AV) := match H.get b with
  | some (.c cs _ _ _) => match Nat.ble (o + n) (lenL cs) with
    | true => some (takeN n (dropN o cs))
    | false => none
  | _ => none
def putC (H : Hp) (b o : Nat) (l : List AV) : Option Hp := match H.get b with
  | some (.c cs t sz ex) => match Nat.ble (o + lenL l) (lenL cs), allOne l with
    | true, true => H.putO b (.c (setC cs o l) t sz ex)
    | _, _ => none
  | _ => none
def agT (P : Program) (t : TypeId) : Option Bool := match P.underlying t with
  | some (.struct _) => some true
  | some (.array _ _) => some true
  | some _ => some false
  | none => none
def szT (P : Program) (t : TypeId) : Option Nat := match P.info? t with
  | some i => some i.size
  | none => none
def zeroT (P : Program) (t : TypeId) : Option Value := match P.info? t with
  | some i => i.zero
  | none => none
def aLoad (P : Program) (t : TypeId) (H : Hp) (b o : Nat) : Option AV := match agT P t with
  | some true => match szT P t with
    | some n => match ldC H b o n with
      | some l => some (.agg l)
      | none => none
    | none => none
  | some false => match ldC H b o 1 with
    | some [a] => some a
    | _ => none
  | none => none
def aStore (P : Program) (t : TypeId) (H : Hp) (b o : Nat) (a : AV) : Option Hp := match szT P t with
  | some n => match Nat.beq n (lenL a.cells) with
    | true => putC H b o a.cells
    | false => none
  | none => none
def evO (T : Tr AV) : Operand → Option AV
  | .tmp t => T.get t
  | .const y => some (.v y)
  | .func f => some (.fn f [] [])
  | .global _ => none
def evL (T : Tr AV) : List Operand → Option (List AV)
  | [] => some []
  | y :: l => match evO T y, evL T l with
    | some a, some r => some (a :: r)
    | _, _ => none
def evP (T : Tr AV) : List (Nat × Operand) → Option (List (Nat × AV))
  | [] => some []
  | (i, y) :: l => match evO T y, evP T l with
    | some a, some r => some ((i, a) :: r)
    | _, _ => none
def evOo (T : Tr AV) : Option Operand → Option (Option AV)
  | none => some none
  | some y => match evO T y with
    | some a => some (some a)
    | none => none
def aInt (op : BinOp) (k : IntKind) (a b : Int) : Option Value := match op with
  | .add => some (.int k (k.wrap (a + b)))
  | .sub => some (.int k (k.wrap (a - b)))
  | .mul => some (.int k (k.wrap (a * b)))
  | .quo => if b = 0 then none else some (.int k (k.wrap (a.tdiv b)))
  | .rem => if b = 0 then none else some (.int k (a.tmod b))
  | .and => some (.int k (k.wrap (BitVec.ofInt k.bits a &&& BitVec.ofInt k.bits b).toNat))
  | .or => some (.int k (k.wrap (BitVec.ofInt k.bits a ||| BitVec.ofInt k.bits b).toNat))
  | .xor => some (.int k (k.wrap (BitVec.ofInt k.bits a ^^^ BitVec.ofInt k.bits b).toNat))
  | .andNot => some (.int k (k.wrap (BitVec.ofInt k.bits a &&& ~~~ BitVec.ofInt k.bits b).toNat))
  | .eql => some (.bool (a == b))
  | .neq => some (.bool (a != b))
  | .lss => some (.bool (a < b))
  | .leq => some (.bool (a ≤ b))
  | .gtr => some (.bool (a > b))
  | .geq => some (.bool (a ≥ b))
  | _ => none
def aShift (op : BinOp) (k : IntKind) (x y : Int) : Option Value := match op with
  | .shl => if y < 0 then none else some (.int k (k.wrap (x * 2 ^ (min y.toNat k.bits))))
  | .shr => if y < 0 then none else some (.int k (x.fdiv (2 ^ (min y.toNat k.bits))))
  | _ => none
def aStr (op : BinOp) (a b : ByteArray) : Option Value := match op with
  | .add => if a.size + b.size ≤ 1000000 then some (.string (a ++ b)) else none
  | .eql => some (.bool (a.data.toList == b.data.toList))
  | .neq => some (.bool (!(a.data.toList == b.data.toList)))
  | _ => none
/-- Equality by type and value. -/
def aEq (P : Program) (t : TypeId) (x y : AV) : Option Bool := match P.underlying t with
    | some (.bool) => match x, y with
      | .v (.bool a), .v (.bool b) => some (a == b)
      | _, _ => none
    | some (.int _) => match x, y with
      | .v (.int k a), .v (.int k' b) => if k = k' then some (a == b) else none
      | _, _ => none
    | some (.slice _) => match x, y with
      | .sl _ _ _ _, .v (.slice none _ _) => some false
      | .sk _ _ _ _, .v (.slice none _ _) => some false
      | .v (.slice none _ _), .v (.slice none _ _) => some true
      | .v (.slice none _ _), .sl _ _ _ _ => some false
      | .v (.slice none _ _), .sk _ _ _ _ => some false
      | _, _ => none
    | some (.pointer _) => match x, y with
      | .ptr _ _, .v (.pointer none) => some false
      | .v (.pointer none), .v (.pointer none) => some true
      | .v (.pointer none), .ptr _ _ => some false
      | _, _ => none
    | some (.func _ _ _) => match x, y with
      | .fn _ _ _, .v .nilFunc => some false
      | .v .nilFunc, .v .nilFunc => some true
      | .v .nilFunc, .fn _ _ _ => some false
      | _, _ => none
    | some (.map _ _) => match x, y with
      | .mp _, .v (.map none) => some false
      | .v (.map none), .v (.map none) => some true
      | .v (.map none), .mp _ => some false
      | _, _ => none
    | _ => none
def aBin (P : Program) (op : BinOp) (t : TypeId) (x y : AV) : Option AV := match x, y with
  | .v (.int k a), .v (.int k' b) => match op with
    | .shl | .shr => (aShift op k a b).map .v
    | _ => if k = k' then (aInt op k a b).map .v else none
  | .v (.string a), .v (.string b) => (aStr op a b).map .v
  | _, _ => match op with
    | .eql => match aEq P t x y with
      | some b => some (.v (.bool b))
      | none => none
    | .neq => match aEq P t x y with
      | some b => some (.v (.bool (!b)))
      | none => none
    | _ => none
def aUn (op : UnOp) : AV → Option AV
  | .v (.int k a) => match op with
    | .neg => some (.v (.int k (k.wrap (0 - a))))
    | _ => none
  | .v (.bool b) => match op with
    | .not => some (.v (.bool (!b)))
    | _ => none
  | _ => none
def aConv (P : Program) (src dst : TypeId) : AV → Option AV
  | .v (.int k a) => match P.underlying src, P.underlying dst with
    | some _, some (.int k') => some (.v (.int k' (k'.wrap a)))
    | _, _ => none
  | .v (.string s) => match P.underlying src, P.underlying dst with
    | some _, some .string => some (.v (.string s))
    | _, _ => none
  | _ => none
def toI : AV → Option Nat
  | .v (.int _ (.ofNat n)) => some n
  | _ => none
def lowI : Option AV → Option Nat
  | none => some 0
  | some a => toI a
def highI (n : Nat) : Option AV → Option Nat
  | none => some n
  | some a => toI a
def aSlice (P : Program) (t : TypeId) (x : AV) (lo hi mx : Option AV) : Option AV := match mx with
  | some _ => none
  | none => match P.underlying t, x with
    | some (.slice e), .sl b o c n => match szT P e, lowI lo, highI n hi with
      | some sz, some l, some h => match Nat.ble l h, Nat.ble h n, Nat.blt l n || Nat.beq l 0 with
        | true, true, true => some (.sl b (o + l * sz) (c + l) (h - l))
        | _, _, _ => none
      | _, _, _ => none
    | some (.slice e), .sk b o n c => match szT P e, lowI lo, highI n hi with
      | some sz, some l, some h => match Nat.ble l h, Nat.ble h c with
        | true, true => some (.sk b (match Nat.beq c l with | true => o | false => o + l * sz) (h - l) (c - l))
        | _, _ => none
      | _, _, _ => none
    | some (.slice e), .v (.slice none 0 0) => match szT P e, lowI lo, highI 0 hi with
      | some sz, some 0, some 0 => some (.v (.slice none 0 0))
      | _, _, _ => none
    | some (.array n e), .ptr b o => match szT P e, lowI lo, highI n hi with
      | some sz, some l, some h => match Nat.ble l h, Nat.ble h n with
        | true, true => some (.sk b (match Nat.beq n l with | true => o | false => o + l * sz) (h - l) (n - l))
        | _, _ => none
      | _, _, _ => none
    | _, _ => none
def setF (zero : List AV) : List (Nat × Nat) → List (Nat × AV) → Option (List AV)
  | _, [] => some zero
  | pl, (i, a) :: r => match nthL pl i with
    | some (off, size) => match Nat.beq (lenL a.cells) size, Nat.ble (off + size) (lenL zero) with
      | true, true => setF (setC zero off a.cells) pl r
      | _, _ => none
    | none => none
def placesL (P : Program) : List Field → Option (List (Nat × Nat))
  | [] => some []
  | f :: l => match szT P f.type, placesL P l with
    | some n, some r => some ((f.offset, n) :: r)
    | _, _ => none
def rowP (sz : Nat) : Nat → Nat → List (Nat × Nat)
  | 0, _ => []
  | n + 1, k => (k * sz, sz) :: rowP sz n (k + 1)
def aBuild (P : Program) (t : TypeId) (ps : List (Nat × AV)) : Option AV := match zeroT P t, P.underlying t with
  | some z, some (.struct fs) => match placesL P fs.toList with
    | some pl => match setF (z.cells.toList.map .v) pl ps with
      | some cs => some (.agg cs)
      | none => none
    | none => none
  | some z, some (.array n e) => match szT P e with
    | some sz => match setF (z.cells.toList.map .v) (rowP sz n 0) ps with
      | some cs => some (.agg cs)
      | none => none
    | none => none
  | _, _ => none
def aField (P : Program) (t : TypeId) (x : AV) (f : Nat) : Option AV := match P.underlying t, x with
  | some (.struct fs), .agg cs => match nthL fs.toList f with
    | some fd => match agT P fd.type, szT P fd.type with
      | some true, some n => match Nat.ble (fd.offset + n) (lenL cs) with
        | true => some (.agg (takeN n (dropN fd.offset cs)))
        | false => none
      | some false, some _ => nthL cs fd.offset
      | _, _ => none
    | none => none
  | _, _ => none
def aMin (k : IntKind) : Int → List AV → Option AV
  | x, [] => some (.v (.int k x))
  | x, .v (.int _ y) :: l => aMin k (if y < x then y else x) l
  | _, _ => none
def aMax (k : IntKind) : Int → List AV → Option AV
  | x, [] => some (.v (.int k x))
  | x, .v (.int _ y) :: l => aMax k (if y > x then y else x) l
  | _, _ => none
/-- An operation that neither reads nor turns memory. -/
def aPure (P : Program) (T : Tr AV) (o : Oper) : Option AV := match o.op with
  | .move x => evO T x
  | .assign x => evO T x
  | .pick c a b => match evO T c with
    | some (.v (.bool true)) => evO T a
    | some (.v (.bool false)) => evO T b
    | _ => none
  | .fieldAddr s x f => match evO T x, P.underlying s with
    | some (.ptr b i), some (.struct fs) => match nthL fs.toList f with
      | some fd => match szT P fd.type with
        | some (n + 1) => some (.ptr b (i + fd.offset))
        | _ => none
      | none => none
    | _, _ => none
  | .indexAddr t x i => match evO T x, evO T i, P.underlying t with
    | some (.sl b o _ n), some iv, some (.slice e) => match toI iv, szT P e with
      | some j, some sz => match Nat.blt j n with
        | true => some (.ptr b (o + j * sz))
        | false => none
      | _, _ => none
    | some (.sk b o n _), some iv, some (.slice e) => match toI iv, szT P e with
      | some j, some sz => match Nat.blt j n with
        | true => some (.ptr b (o + j * sz))
        | false => none
      | _, _ => none
    | some (.ptr b o), some iv, some (.array n e) => match toI iv, szT P e with
      | some j, some sz => match Nat.blt j n with
        | true => some (.ptr b (o + j * sz))
        | false => none
      | _, _ => none
    | _, _, _ => none
  | .build t ps => match evP T ps.toList with
    | some l => aBuild P t l
    | none => none
  | .extract t i => match evO T t with
    | some (.tup l) => nthL l i
    | _ => none
  | .binOp op t x y _ => match evO T x, evO T y with
    | some a, some b => aBin P op t a b
    | _, _ => none
  | .unOp op _ x => match evO T x with
    | some a => aUn op a
    | none => none
  | .convert s d x => match evO T x with
    | some a => aConv P s d a
    | none => none
  | .slice t x lo hi mx => match evO T x, evOo T lo, evOo T hi, evOo T mx with
    | some a, some l, some h, some m => aSlice P t a l h m
    | _, _, _, _ => none
  | .nilCheck x => match evO T x with
    | some (.ptr b o) => some (.ptr b o)
    | some (.fn f a b) => some (.fn f a b)
    | some (.yl b) => some (.yl b)
    | _ => none
  | .field t x f => match evO T x with
    | some a => aField P t a f
    | none => none
  | .index t x i => match evO T x, evO T i, P.underlying t with
    | some (.v (.string s)), some iv, some .string => match toI iv with
      | some j => match nthL s.data.toList j with
        | some b => some (.v (.int .u8 b.toNat))
        | none => none
      | none => none
    | _, _, _ => none
  | .makeFunc (.func f) first caps => match evL T first.toList, evL T caps.toList with
    | some a, some b => some (.fn f a b)
    | _, _ => none
  | .makeInterface t x => match evO T x, P.underlying t with
    | some a, some d => match d with
      | .interface _ => none
      | _ => some (.ifc t a)
    | _, _ => none
  | .call c => match c.callee with
    | .builtin .len => match evL T c.args.toList, c.argTypes.toList with
      | some [a], t :: _ => match P.underlying t, a with
        | some .string, .v (.string s) => some (.v (goInt s.size))
        | some (.slice _), .v (.slice _ n _) => some (.v (goInt n))
        | some (.slice _), .sl _ _ _ n => some (.v (goInt n))
        | some (.slice _), .sk _ _ n _ => some (.v (goInt n))
        | _, _ => none
      | _, _ => none
    | .builtin .min => match evL T c.args.toList with
      | some (.v (.int k x) :: l) => aMin k x l
      | _ => none
    | .builtin .max => match evL T c.args.toList with
      | some (.v (.int k x) :: l) => aMax k x l
      | _ => none
    | _ => none
  | _ => none
/-- Keys: numbers, or structs of numbers. -/
def sameK : AV → AV → Option Bool
  | .v (.int k a), .v (.int k' b) => if k = k' then some (a == b) else none
  | _, _ => none
def sameKs : List AV → List AV → Option Bool
  | [], [] => some true
  | a :: l, b :: m => match sameK a b with
    | some true => sameKs l m
    | some false => some false
    | none => none
  | _, _ => none
def sameI : AV → AV → Option Bool
  | .agg l, .agg m => sameKs l m
  | a, b => sameK a b
def rawL : List AV → Option (List Value)
  | [] => some []
  | .v (.int k a) :: l => match rawL l with
    | some r => some (.int k a :: r)
    | none => none
  | _ => none
def keyT (P : Program) (t : TypeId) : Bool := match P.underlying t with
  | some (.int _) => true
  | some (.array _ _) => match P.keyTypeAt 30 t, P.tiled 30 t with
    | true, true => true
    | _, _ => false
  | some (.struct _) => match P.keyTypeAt 30 t, P.tiled 30 t with
    | true, true => true
    | _, _ => false
  | _ => false
/-- A key that the model can tell. -/
def keyV (P : Program) (t : TypeId) (a : AV) : Bool := match a with
  | .v (.int k _) => match P.underlying t with
    | some (.int q) => decide (k = q)
    | _ => false
  | .agg l => match rawL l with
    | some vs => match P.underlying t with
      | some (.int _) => false
      | _ => (keyOf P t (.agg vs.toArray)).isSome
    | none => false
  | _ => false
def allK (P : Program) (t : TypeId) : List (AV × AV) → Bool
  | [] => true
  | (k, _) :: l => match keyV P t k with
    | true => allK P t l
    | false => false
def mapOk (P : Program) (t : TypeId) (k : AV) (es : List (AV × AV)) : Bool := match keyT P t, keyV P t k with
  | true, true => allK P t es
  | _, _ => false
def findM (k : AV) : List (AV × AV) → Option (Option AV)
  | [] => some none
  | (j, a) :: l => match sameI k j with
    | some true => some (some a)
    | some false => findM k l
    | none => none
/-- An operation that reads memory. -/
def aRead (P : Program) (T : Tr AV) (H : Hp) (o : Oper) : Option AV := match o.op with
  | .load t a => match evO T a with
    | some (.ptr b i) => aLoad P t H b i
    | _ => none
  | .lookup t x i ok => match evO T x, evO T i, P.underlying t with
    | some (.mp b), some k, some (.map kt et) => match H.get b, zeroT P et with
      | some (.mp es), some z => match mapOk P kt k es, findM k es, ok with
        | true, some (some a), true => some (.tup [a, .v (.bool true)])
        | true, some (some a), false => some a
        | true, some none, true => some (.tup [.v z, .v (.bool false)])
        | true, some none, false => some (.v z)
        | _, _, _ => none
      | _, _ => none
    | _, _, _ => none
  | _ => none
def reps (z : List AV) : Nat → List AV
  | 0 => []
  | n + 1 => z ++ reps z n
/-- The elements of a slice: how many cells, and the zero. -/
def elT (P : Program) (e : TypeId) : Option (Nat × Value) := match P.info? e with
  | some i => match i.zero with
    | some z => match Nat.beq z.cells.size i.size, Nat.blt 0 i.size, Nat.ble i.bytes 100000 && Nat.ble i.size 100 with
      | true, true, true => some (i.size, z)
      | _, _, _ => none
    | none => none
  | none => none
/-- An operation that lays a block: what lies there, and the value by the block's number. -/
def aAlloc (P : Program) (T : Tr AV) (o : Oper) : Option (Ob × (Nat → AV)) := match o.op with
  | .alloc e => match zeroT P e with
    | some z => some (.c (z.cells.toList.map .v) e 1 true, fun b => .ptr b 0)
    | none => none
  | .box e x => match evO T x with
    | some a => some (.c a.cells e 1 true, fun b => .ptr b 0)
    | none => none
  | .buildSlice t n ps => match evP T ps.toList, P.underlying t with
    | some l, some (.slice e) => match elT P e, Nat.ble n 100000 && Nat.blt 0 n with
      | some (sz, z), false => match n, l with
        | 0, [] => some (.c [] e 1 true, fun b => .sk b 0 0 0)
        | _, _ => none
      | some (sz, z), true => match setF (reps (z.cells.toList.map .v) n) (rowP sz n 0) l with
        | some cs => some (.c cs e 1 true, fun b => .sk b 0 n n)
        | none => none
      | _, _ => none
    | _, _ => none
  | .makeSlice t l c => match evO T l, evO T c, P.underlying t with
    | some lv, some cv, some (.slice e) => match toI lv, toI cv, elT P e with
      | some n, some cp, some (sz, z) => match Nat.ble n cp, Nat.ble cp 100000 with
        | true, true => some (.c (reps (z.cells.toList.map .v) cp) e 1 true, fun b => .sk b 0 n cp)
        | _, _ => none
      | _, _, _ => none
    | _, _, _ => none
  | .makeMap t none => some (.mp [], fun b => .mp b)
  | _ => none
def aAppend (P : Program) (e : TypeId) (H : Hp) (s : AV) (m : Nat) (l : List AV) : Option (AV × Hp) := match elT P e with
  | some (sz, z) => match s with
    | .v (.slice none 0 0) => match Nat.blt 0 m, Nat.ble m 1000000, allOne l with
      | true, true, true => some (.sl H.n 0 0 m, H.new (.c l e sz false))
      | _, _, _ => none
    | .sk b o n c => match Nat.ble (n + m) c with
      | true => match putC H b (o + n * sz) l with
        | some H' => some (.sk b o (n + m) c, H')
        | none => none
      | false => match ldC H b o (n * sz), Nat.ble (n + m) 1000000, allOne l with
        | some cs, true, true => some (.sl H.n 0 0 (n + m), H.new (.c (cs ++ l) e sz false))
        | _, _, _ => none
    | .sl b o c n => match H.get b with
      | some (.c cs t y false) => match Nat.beq o 0, Nat.beq c 0, Nat.beq (n * sz) (lenL cs), Nat.ble H.r b && (Nat.beq y sz && Nat.beq t e), Nat.ble (n + m) 1000000 && allOne l with
        | true, true, true, true, true => some (.sl H.n 0 0 (n + m), (H.drop b).new (.c (cs ++ l) e sz false))
        | _, _, _, _, _ => none
      | _ => none
    | _ => none
  | none => none
/-- The cells that a slice or a string holds. -/
def aCells (H : Hp) (sz : Nat) : AV → Option (Nat × List AV)
  | .sl b o _ n => match ldC H b o (n * sz) with
    | some l => some (n, l)
    | none => none
  | .sk b o n _ => match ldC H b o (n * sz) with
    | some l => some (n, l)
    | none => none
  | .v (.slice none 0 0) => some (0, [])
  | _ => none
def putM (k : AV) (a : AV) : List (AV × AV) → Option (List (AV × AV))
  | [] => some [(k, a)]
  | (j, c) :: l => match sameI k j with
    | some true => some ((j, a) :: l)
    | some false => match putM k a l with
      | some r => some ((j, c) :: r)
      | none => none
    | none => none
def aApp (P : Program) (H : Hp) (st xt : TypeId) (s y : AV) : Option (AV × Hp) := match Nat.beq st xt, P.underlying st with
  | true, some (.slice e) => match szT P e with
    | some sz => match aCells H sz y with
      | some (0, _) => match s with
        | .v (.slice none 0 0) => some (s, H)
        | .sl _ _ _ _ => some (s, H)
        | .sk b o n c => match Nat.ble n c with
          | true => some (s, H)
          | false => none
        | _ => none
      | some (m + 1, l) => aAppend P e H s (m + 1) l
      | none => none
    | none => none
  | _, _ => none
def aPut (H : Hp) (b o sz n m : Nat) (l : List AV) : Option (AV × Hp) := match putC H b o (takeN ((Nat.min m n) * sz) l) with
  | some H' => some (.v (goInt (Nat.min m n)), H')
  | none => none
def aCopy (P : Program) (H : Hp) (dt : TypeId) (d y : AV) : Option (AV × Hp) := match P.underlying dt with
  | some (.slice e) => match szT P e with
    | some sz => match aCells H sz y with
      | some (m, l) => match d with
        | .sl b o _ n => aPut H b o sz n m l
        | .sk b o n _ => aPut H b o sz n m l
        | .v (.slice none 0 0) => some (.v (goInt 0), H)
        | _ => none
      | none => none
    | none => none
  | _ => none
def aUp (P : Program) (H : Hp) (t : TypeId) (m k v : AV) : Option (AV × Hp) := match m, P.underlying t with
  | .mp b, some (.map kt _) => match H.get b with
    | some (.mp es) => match mapOk P kt k es, putM k v es with
      | true, some es' => match H.putO b (.mp es') with
        | some H' => some (.v (.tuple #[]), H')
        | none => none
      | _, _ => none
    | _ => none
  | _, _ => none
/-- An operation that turns memory; none in the place of a value where there is none. -/
def aWrite (P : Program) (T : Tr AV) (H : Hp) (o : Oper) : Option (AV × Hp) := match o.op with
  | .store t a x => match evO T a, evO T x with
    | some (.ptr b i), some v => match aStore P t H b i v with
      | some H' => some (.v (.tuple #[]), H')
      | none => none
    | _, _ => none
  | .call c => match c.callee with
    | .builtin .append => match evL T c.args.toList, c.argTypes.toList with
      | some [s, y], [st, xt] => aApp P H st xt s y
      | _, _ => none
    | .builtin .copy => match evL T c.args.toList, c.argTypes.toList with
      | some [d, y], dt :: _ => aCopy P H dt d y
      | _, _ => none
    | _ => none
  | .mapUpdate t m k x => match evO T m, evO T k, evO T x with
    | some mv, some kv, some v => aUp P H t mv kv v
    | _, _, _ => none
  | .insert t m k x => match evO T m, evO T k, evO T x with
    | some mv, some kv, some v => aUp P H t mv kv v
    | _, _, _ => none
  | _ => none
inductive Kd where
  | pure | read | alloc | turn | call
def kdOf (P : Program) (o : Oper) : Kd := match o.op with
  | .load _ _ => .read
  | .lookup _ _ _ _ => .read
  | .convert s d _ => match P.underlying s with
    | some (.slice _) => .read
    | _ => .pure
  | .alloc _ => .alloc
  | .box _ _ => .alloc
  | .buildSlice _ _ _ => .alloc
  | .makeSlice _ _ _ => .alloc
  | .makeMap _ _ => .alloc
  | .store _ _ _ => .turn
  | .mapUpdate _ _ _ _ => .turn
  | .insert _ _ _ _ => .turn
  | .call c => match c.callee with
    | .value _ => .call
    | .invoke _ _ => .call
    | .builtin .len => .pure
    | .builtin .min => .pure
    | .builtin .max => .pure
    | .builtin _ => .turn
  | _ => .pure
end Go.Proofs.YtklanoppbbaolaaGreat
