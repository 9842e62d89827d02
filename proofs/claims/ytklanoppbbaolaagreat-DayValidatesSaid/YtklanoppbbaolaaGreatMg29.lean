/- Texts in one: Ew1, Ew2. -/
import Derived.WalkKit
import Derived.DeepKeys3
/- A closed run: a machine on data, its values named by blocks of our own. No program is named here. -/
namespace Go.Proofs.YtklanoppbbaolaaGreat
open Go
set_option linter.unusedVariables false
/-- A tree by numbers. -/
inductive Tr (α : Type) where
  | lf
  | nd (l : Tr α) (v : Option α) (r : Tr α)
namespace Tr
variable {α : Type}
def get : Tr α → Nat → Option α
  | .lf, _ => none
  | .nd l v r, n => match n with
    | 0 => v
    | m + 1 => match Nat.beq (m % 2) 0 with
      | true => l.get (m / 2)
      | false => r.get (m / 2)
def set : Nat → Tr α → Nat → Option α → Tr α
  | 0, t, _, _ => t
  | f + 1, .lf, n, x => match n with
    | 0 => .nd .lf x .lf
    | m + 1 => match Nat.beq (m % 2) 0 with
      | true => .nd (set f .lf (m / 2) x) none .lf
      | false => .nd .lf none (set f .lf (m / 2) x)
  | f + 1, .nd l v r, n, x => match n with
    | 0 => .nd l x r
    | m + 1 => match Nat.beq (m % 2) 0 with
      | true => .nd (set f l (m / 2) x) v r
      | false => .nd l v (set f r (m / 2) x)
end Tr
def FU : Nat := 24
/-- A value, its blocks by numbers of our own. -/
inductive AV where
  | v (x : Value)
  | ptr (b o : Nat)
  | sl (b o e len : Nat)
  | sk (b o len cap : Nat)
  | agg (l : List AV)
  | tup (l : List AV)
  | fn (f : FuncId) (fst caps : List AV)
  | yl (b : Nat)
  | mp (b : Nat)
  | ifc (t : TypeId) (a : AV)
/-- What lies in a block: cells as far as they are known, their type, the cells of an element, and whether nothing lies behind; or a loop over a function; its mark; or a map. -/
inductive Ob where
  | c (cs : List AV) (t : TypeId) (sz : Nat) (ex : Bool)
  | lp (st : LoopState) (pend : Option Code) (fn : FuncId) (T : Tr AV) (tz : Nat) (params : Array Tmp) (assign body : Code) (d : Nat)
  | df
  | mp (es : List (AV × AV))
/-- Memory; the number of blocks so far; the blocks below r are only read. -/
structure Hp where
  m : Tr Ob
  n : Nat
  r : Nat
def Hp.get (H : Hp) (b : Nat) : Option Ob := H.m.get b
def Hp.put (H : Hp) (b : Nat) (k : Ob) : Hp := ⟨H.m.set FU b (some k), H.n, H.r⟩
def Hp.drop (H : Hp) (b : Nat) : Hp := ⟨H.m.set FU b none, H.n, H.r⟩
def Hp.new (H : Hp) (k : Ob) : Hp := ⟨H.m.set FU H.n (some k), H.n + 1, H.r⟩
def Hp.putO (H : Hp) (b : Nat) (k : Ob) : Option Hp := match Nat.ble H.r b with
  | true => some (H.put b k)
  | false => none
def AV.cells : AV → List AV
  | .agg l => l
  | .v y => y.cells.toList.map .v
  | a => [a]
def AV.one : AV → Bool
  | .v y => match y with | .agg _ => false | .tuple _ => false | _ => true
  | .agg _ => false
  | .tup _ => false
  | _ => true
def allOne : List AV → Bool
  | [] => true
  | a :: l => match a.one with
    | true => allOne l
    | false => false
def setC : List AV → Nat → List AV → List AV
  | [], _, _ => []
  | y :: l, o + 1, m => y :: setC l o m
  | y :: l, 0, [] => y :: l
  | y :: l, 0, a :: m => a :: setC l 0 m
def dropN {α : Type} : Nat → List α → List α
  | 0, l => l
  | _ + 1, [] => []
  | n + 1, _ :: l => dropN n l
def takeN {α : Type} : Nat → List α → List α
  | 0, _ => []
  | _ + 1, [] => []
  | n + 1, a :: l => a :: takeN n l
def lenL {α : Type} : List α → Nat
  | [] => 0
  | _ :: l => lenL l + 1
def nthL {α : Type} : List α → Nat → Option α
  | [], _ => none
  | a :: _, 0 => some a
  | _ :: l, n + 1 => nthL l n
def ldC (H : Hp) (b o n : Nat) : Option (List AV) := match H.get b with
  | some (.c cs _ _ _) => match Nat.ble (o + n) (lenL cs) with
    | true => some (takeN n (dropN o cs))
    | false => none
  | _ => none
def putC (H : Hp) (b o : Nat) (l : List AV) : Option Hp := match H.get b with
  | some (.c cs t sz ex) => match Nat.ble (o + lenL l) (lenL cs), allOne l with
    | true, true => H.putO b (.c (setC cs o l) t sz ex)
    | _, _ => none
  | _ => none
def agT (P : Program) (t : TypeId) : Option Bool := match P.underlying t with
  | some (.struct _) => some true
  | some (.array _ _) => some true
  | some _ => some false
  | none => none
def szT (P : Program) (t : TypeId) : Option Nat := match P.info? t with
  | some i => some i.size
  | none => none
def zeroT (P : Program) (t : TypeId) : Option Value := match P.info? t with
  | some i => i.zero
  | none => none
def aLoad (P : Program) (t : TypeId) (H : Hp) (b o : Nat) : Option AV := match agT P t with
  | some true => match szT P t with
    | some n => match ldC H b o n with
      | some l => some (.agg l)
      | none => none
    | none => none
  | some false => match ldC H b o 1 with
    | some [a] => some a
    | _ => none
  | none => none
def aStore (P : Program) (t : TypeId) (H : Hp) (b o : Nat) (a : AV) : Option Hp := match szT P t with
  | some n => match Nat.beq n (lenL a.cells) with
    | true => putC H b o a.cells
    | false => none
  | none => none
def evO (T : Tr AV) : Operand → Option AV
  | .tmp t => T.get t
  | .const y => some (.v y)
  | .func f => some (.fn f [] [])
  | .global _ => none
def evL (T : Tr AV) : List Operand → Option (List AV)
  | [] => some []
  | y :: l => match evO T y, evL T l with
    | some a, some r => some (a :: r)
    | _, _ => none
def evP (T : Tr AV) : List (Nat × Operand) → Option (List (Nat × AV))
  | [] => some []
  | (i, y) :: l => match evO T y, evP T l with
    | some a, some r => some ((i, a) :: r)
    | _, _ => none
def evOo (T : Tr AV) : Option Operand → Option (Option AV)
  | none => some none
  | some y => match evO T y with
    | some a => some (some a)
    | none => none
def aInt (op : BinOp) (k : IntKind) (a b : Int) : Option Value := match op with
  | .add => some (.int k (k.wrap (a + b)))
  | .sub => some (.int k (k.wrap (a - b)))
  | .mul => some (.int k (k.wrap (a * b)))
  | .quo => if b = 0 then none else some (.int k (k.wrap (a.tdiv b)))
  | .rem => if b = 0 then none else some (.int k (a.tmod b))
  | .and => some (.int k (k.wrap (BitVec.ofInt k.bits a &&& BitVec.ofInt k.bits b).toNat))
  | .or => some (.int k (k.wrap (BitVec.ofInt k.bits a ||| BitVec.ofInt k.bits b).toNat))
  | .xor => some (.int k (k.wrap (BitVec.ofInt k.bits a ^^^ BitVec.ofInt k.bits b).toNat))
  | .andNot => some (.int k (k.wrap (BitVec.ofInt k.bits a &&& ~~~ BitVec.ofInt k.bits b).toNat))
  | .eql => some (.bool (a == b))
  | .neq => some (.bool (a != b))
  | .lss => some (.bool (a < b))
  | .leq => some (.bool (a ≤ b))
  | .gtr => some (.bool (a > b))
  | .geq => some (.bool (a ≥ b))
  | _ => none
def aShift (op : BinOp) (k : IntKind) (x y : Int) : Option Value := match op with
  | .shl => if y < 0 then none else some (.int k (k.wrap (x * 2 ^ (min y.toNat k.bits))))
  | .shr => if y < 0 then none else some (.int k (x.fdiv (2 ^ (min y.toNat k.bits))))
  | _ => none
def aStr (op : BinOp) (a b : ByteArray) : Option Value := match op with
  | .add => if a.size + b.size ≤ 1000000 then some (.string (a ++ b)) else none
  | .eql => some (.bool (a.data.toList == b.data.toList))
  | .neq => some (.bool (!(a.data.toList == b.data.toList)))
  | _ => none
/-- Equality by type and value. -/
def aEq (P : Program) (t : TypeId) (x y : AV) : Option Bool := match P.underlying t with
    | some (.bool) => match x, y with
      | .v (.bool a), .v (.bool b) => some (a == b)
      | _, _ => none
    | some (.int _) => match x, y with
      | .v (.int k a), .v (.int k' b) => if k = k' then some (a == b) else none
      | _, _ => none
    | some (.slice _) => match x, y with
      | .sl _ _ _ _, .v (.slice none _ _) => some false
      | .sk _ _ _ _, .v (.slice none _ _) => some false
      | .v (.slice none _ _), .v (.slice none _ _) => some true
      | .v (.slice none _ _), .sl _ _ _ _ => some false
      | .v (.slice none _ _), .sk _ _ _ _ => some false
      | _, _ => none
    | some (.pointer _) => match x, y with
      | .ptr _ _, .v (.pointer none) => some false
      | .v (.pointer none), .v (.pointer none) => some true
      | .v (.pointer none), .ptr _ _ => some false
      | _, _ => none
    | some (.func _ _ _) => match x, y with
      | .fn _ _ _, .v .nilFunc => some false
      | .v .nilFunc, .v .nilFunc => some true
      | .v .nilFunc, .fn _ _ _ => some false
      | _, _ => none
    | some (.map _ _) => match x, y with
      | .mp _, .v (.map none) => some false
      | .v (.map none), .v (.map none) => some true
      | .v (.map none), .mp _ => some false
      | _, _ => none
    | _ => none
def aBin (P : Program) (op : BinOp) (t : TypeId) (x y : AV) : Option AV := match x, y with
  | .v (.int k a), .v (.int k' b) => match op with
    | .shl | .shr => (aShift op k a b).map .v
    | _ => if k = k' then (aInt op k a b).map .v else none
  | .v (.string a), .v (.string b) => (aStr op a b).map .v
  | _, _ => match op with
    | .eql => match aEq P t x y with
      | some b => some (.v (.bool b))
      | none => none
    | .neq => match aEq P t x y with
      | some b => some (.v (.bool (!b)))
      | none => none
    | _ => none
def aUn (op : UnOp) : AV → Option AV
  | .v (.int k a) => match op with
    | .neg => some (.v (.int k (k.wrap (0 - a))))
    | _ => none
  | .v (.bool b) => match op with
    | .not => some (.v (.bool (!b)))
    | _ => none
  | _ => none
def aConv (P : Program) (src dst : TypeId) : AV → Option AV
  | .v (.int k a) => match P.underlying src, P.underlying dst with
    | some _, some (.int k') => some (.v (.int k' (k'.wrap a)))
    | _, _ => none
  | .v (.string s) => match P.underlying src, P.underlying dst with
    | some _, some .string => some (.v (.string s))
    | _, _ => none
  | _ => none
def toI : AV → Option Nat
  | .v (.int _ (.ofNat n)) => some n
  | _ => none
def lowI : Option AV → Option Nat
  | none => some 0
  | some a => toI a
def highI (n : Nat) : Option AV → Option Nat
  | none => some n
  | some a => toI a
def aSlice (P : Program) (t : TypeId) (x : AV) (lo hi mx : Option AV) : Option AV := match mx with
  | some _ => none
  | none => match P.underlying t, x with
    | some (.slice e), .sl b o c n => match szT P e, lowI lo, highI n hi with
      | some sz, some l, some h => match Nat.ble l h, Nat.ble h n, Nat.blt l n || Nat.beq l 0 with
        | true, true, true => some (.sl b (o + l * sz) (c + l) (h - l))
        | _, _, _ => none
      | _, _, _ => none
    | some (.slice e), .sk b o n c => match szT P e, lowI lo, highI n hi with
      | some sz, some l, some h => match Nat.ble l h, Nat.ble h c with
        | true, true => some (.sk b (match Nat.beq c l with | true => o | false => o + l * sz) (h - l) (c - l))
        | _, _ => none
      | _, _, _ => none
    | some (.slice e), .v (.slice none 0 0) => match szT P e, lowI lo, highI 0 hi with
      | some sz, some 0, some 0 => some (.v (.slice none 0 0))
      | _, _, _ => none
    | some (.array n e), .ptr b o => match szT P e, lowI lo, highI n hi with
      | some sz, some l, some h => match Nat.ble l h, Nat.ble h n with
        | true, true => some (.sk b (match Nat.beq n l with | true => o | false => o + l * sz) (h - l) (n - l))
        | _, _ => none
      | _, _, _ => none
    | _, _ => none
def setF (zero : List AV) : List (Nat × Nat) → List (Nat × AV) → Option (List AV)
  | _, [] => some zero
  | pl, (i, a) :: r => match nthL pl i with
    | some (off, size) => match Nat.beq (lenL a.cells) size, Nat.ble (off + size) (lenL zero) with
      | true, true => setF (setC zero off a.cells) pl r
      | _, _ => none
    | none => none
def placesL (P : Program) : List Field → Option (List (Nat × Nat))
  | [] => some []
  | f :: l => match szT P f.type, placesL P l with
    | some n, some r => some ((f.offset, n) :: r)
    | _, _ => none
def rowP (sz : Nat) : Nat → Nat → List (Nat × Nat)
  | 0, _ => []
  | n + 1, k => (k * sz, sz) :: rowP sz n (k + 1)
def aBuild (P : Program) (t : TypeId) (ps : List (Nat × AV)) : Option AV := match zeroT P t, P.underlying t with
  | some z, some (.struct fs) => match placesL P fs.toList with
    | some pl => match setF (z.cells.toList.map .v) pl ps with
      | some cs => some (.agg cs)
      | none => none
    | none => none
  | some z, some (.array n e) => match szT P e with
    | some sz => match setF (z.cells.toList.map .v) (rowP sz n 0) ps with
      | some cs => some (.agg cs)
      | none => none
    | none => none
  | _, _ => none
def aField (P : Program) (t : TypeId) (x : AV) (f : Nat) : Option AV := match P.underlying t, x with
  | some (.struct fs), .agg cs => match nthL fs.toList f with
    | some fd => match agT P fd.type, szT P fd.type with
      | some true, some n => match Nat.ble (fd.offset + n) (lenL cs) with
        | true => some (.agg (takeN n (dropN fd.offset cs)))
        | false => none
      | some false, some _ => nthL cs fd.offset
      | _, _ => none
    | none => none
  | _, _ => none
def aMin (k : IntKind) : Int → List AV → Option AV
  | x, [] => some (.v (.int k x))
  | x, .v (.int _ y) :: l => aMin k (if y < x then y else x) l
  | _, _ => none
def aMax (k : IntKind) : Int → List AV → Option AV
  | x, [] => some (.v (.int k x))
  | x, .v (.int _ y) :: l => aMax k (if y > x then y else x) l
  | _, _ => none
/-- An operation that neither reads nor turns memory. -/
def aPure (P : Program) (T : Tr AV) (o : Oper) : Option AV := match o.op with
  | .move x => evO T x
  | .assign x => evO T x
  | .pick c a b => match evO T c with
    | some (.v (.bool true)) => evO T a
    | some (.v (.bool false)) => evO T b
    | _ => none
  | .fieldAddr s x f => match evO T x, P.underlying s with
    | some (.ptr b i), some (.struct fs) => match nthL fs.toList f with
      | some fd => match szT P fd.type with
        | some (n + 1) => some (.ptr b (i + fd.offset))
        | _ => none
      | none => none
    | _, _ => none
  | .indexAddr t x i => match evO T x, evO T i, P.underlying t with
    | some (.sl b o _ n), some iv, some (.slice e) => match toI iv, szT P e with
      | some j, some sz => match Nat.blt j n with
        | true => some (.ptr b (o + j * sz))
        | false => none
      | _, _ => none
    | some (.sk b o n _), some iv, some (.slice e) => match toI iv, szT P e with
      | some j, some sz => match Nat.blt j n with
        | true => some (.ptr b (o + j * sz))
        | false => none
      | _, _ => none
    | some (.ptr b o), some iv, some (.array n e) => match toI iv, szT P e with
      | some j, some sz => match Nat.blt j n with
        | true => some (.ptr b (o + j * sz))
        | false => none
      | _, _ => none
    | _, _, _ => none
  | .build t ps => match evP T ps.toList with
    | some l => aBuild P t l
    | none => none
  | .extract t i => match evO T t with
    | some (.tup l) => nthL l i
    | _ => none
  | .binOp op t x y _ => match evO T x, evO T y with
    | some a, some b => aBin P op t a b
    | _, _ => none
  | .unOp op _ x => match evO T x with
    | some a => aUn op a
    | none => none
  | .convert s d x => match evO T x with
    | some a => aConv P s d a
    | none => none
  | .slice t x lo hi mx => match evO T x, evOo T lo, evOo T hi, evOo T mx with
    | some a, some l, some h, some m => aSlice P t a l h m
    | _, _, _, _ => none
  | .nilCheck x => match evO T x with
    | some (.ptr b o) => some (.ptr b o)
    | some (.fn f a b) => some (.fn f a b)
    | some (.yl b) => some (.yl b)
    | _ => none
  | .field t x f => match evO T x with
    | some a => aField P t a f
    | none => none
  | .index t x i => match evO T x, evO T i, P.underlying t with
    | some (.v (.string s)), some iv, some .string => match toI iv with
      | some j => match nthL s.data.toList j with
        | some b => some (.v (.int .u8 b.toNat))
        | none => none
      | none => none
    | _, _, _ => none
  | .makeFunc (.func f) first caps => match evL T first.toList, evL T caps.toList with
    | some a, some b => some (.fn f a b)
    | _, _ => none
  | .makeInterface t x => match evO T x, P.underlying t with
    | some a, some d => match d with
      | .interface _ => none
      | _ => some (.ifc t a)
    | _, _ => none
  | .call c => match c.callee with
    | .builtin .len => match evL T c.args.toList, c.argTypes.toList with
      | some [a], t :: _ => match P.underlying t, a with
        | some .string, .v (.string s) => some (.v (goInt s.size))
        | some (.slice _), .v (.slice _ n _) => some (.v (goInt n))
        | some (.slice _), .sl _ _ _ n => some (.v (goInt n))
        | some (.slice _), .sk _ _ n _ => some (.v (goInt n))
        | _, _ => none
      | _, _ => none
    | .builtin .min => match evL T c.args.toList with
      | some (.v (.int k x) :: l) => aMin k x l
      | _ => none
    | .builtin .max => match evL T c.args.toList with
      | some (.v (.int k x) :: l) => aMax k x l
      | _ => none
    | _ => none
  | _ => none
/-- Keys: numbers, or structs of numbers. -/
def sameK : AV → AV → Option Bool
  | .v (.int k a), .v (.int k' b) => if k = k' then some (a == b) else none
  | _, _ => none
def sameKs : List AV → List AV → Option Bool
  | [], [] => some true
  | a :: l, b :: m => match sameK a b with
    | some true => sameKs l m
    | some false => some false
    | none => none
  | _, _ => none
def sameI : AV → AV → Option Bool
  | .agg l, .agg m => sameKs l m
  | a, b => sameK a b
def rawL : List AV → Option (List Value)
  | [] => some []
  | .v (.int k a) :: l => match rawL l with
    | some r => some (.int k a :: r)
    | none => none
  | _ => none
def keyT (P : Program) (t : TypeId) : Bool := match P.underlying t with
  | some (.int _) => true
  | some (.array _ _) => match P.keyTypeAt 30 t, P.tiled 30 t with
    | true, true => true
    | _, _ => false
  | some (.struct _) => match P.keyTypeAt 30 t, P.tiled 30 t with
    | true, true => true
    | _, _ => false
  | _ => false
/-- A key that the model can tell. -/
def keyV (P : Program) (t : TypeId) (a : AV) : Bool := match a with
  | .v (.int k _) => match P.underlying t with
    | some (.int q) => decide (k = q)
    | _ => false
  | .agg l => match rawL l with
    | some vs => match P.underlying t with
      | some (.int _) => false
      | _ => (keyOf P t (.agg vs.toArray)).isSome
    | none => false
  | _ => false
def allK (P : Program) (t : TypeId) : List (AV × AV) → Bool
  | [] => true
  | (k, _) :: l => match keyV P t k with
    | true => allK P t l
    | false => false
def mapOk (P : Program) (t : TypeId) (k : AV) (es : List (AV × AV)) : Bool := match keyT P t, keyV P t k with
  | true, true => allK P t es
  | _, _ => false
def findM (k : AV) : List (AV × AV) → Option (Option AV)
  | [] => some none
  | (j, a) :: l => match sameI k j with
    | some true => some (some a)
    | some false => findM k l
    | none => none
/-- An operation that reads memory. -/
def aRead (P : Program) (T : Tr AV) (H : Hp) (o : Oper) : Option AV := match o.op with
  | .load t a => match evO T a with
    | some (.ptr b i) => aLoad P t H b i
    | _ => none
  | .lookup t x i ok => match evO T x, evO T i, P.underlying t with
    | some (.mp b), some k, some (.map kt et) => match H.get b, zeroT P et with
      | some (.mp es), some z => match mapOk P kt k es, findM k es, ok with
        | true, some (some a), true => some (.tup [a, .v (.bool true)])
        | true, some (some a), false => some a
        | true, some none, true => some (.tup [.v z, .v (.bool false)])
        | true, some none, false => some (.v z)
        | _, _, _ => none
      | _, _ => none
    | _, _, _ => none
  | _ => none
def reps (z : List AV) : Nat → List AV
  | 0 => []
  | n + 1 => z ++ reps z n
/-- The elements of a slice: how many cells, and the zero. -/
def elT (P : Program) (e : TypeId) : Option (Nat × Value) := match P.info? e with
  | some i => match i.zero with
    | some z => match Nat.beq z.cells.size i.size, Nat.blt 0 i.size, Nat.ble i.bytes 100000 && Nat.ble i.size 100 with
      | true, true, true => some (i.size, z)
      | _, _, _ => none
    | none => none
  | none => none
/-- An operation that lays a block: what lies there, and the value by the block's number. -/
def aAlloc (P : Program) (T : Tr AV) (o : Oper) : Option (Ob × (Nat → AV)) := match o.op with
  | .alloc e => match zeroT P e with
    | some z => some (.c (z.cells.toList.map .v) e 1 true, fun b => .ptr b 0)
    | none => none
  | .box e x => match evO T x with
    | some a => some (.c a.cells e 1 true, fun b => .ptr b 0)
    | none => none
  | .buildSlice t n ps => match evP T ps.toList, P.underlying t with
    | some l, some (.slice e) => match elT P e, Nat.ble n 100000 && Nat.blt 0 n with
      | some (sz, z), false => match n, l with
        | 0, [] => some (.c [] e 1 true, fun b => .sk b 0 0 0)
        | _, _ => none
      | some (sz, z), true => match setF (reps (z.cells.toList.map .v) n) (rowP sz n 0) l with
        | some cs => some (.c cs e 1 true, fun b => .sk b 0 n n)
        | none => none
      | _, _ => none
    | _, _ => none
  | .makeSlice t l c => match evO T l, evO T c, P.underlying t with
    | some lv, some cv, some (.slice e) => match toI lv, toI cv, elT P e with
      | some n, some cp, some (sz, z) => match Nat.ble n cp, Nat.ble cp 100000 with
        | true, true => some (.c (reps (z.cells.toList.map .v) cp) e 1 true, fun b => .sk b 0 n cp)
        | _, _ => none
      | _, _, _ => none
    | _, _, _ => none
  | .makeMap t none => some (.mp [], fun b => .mp b)
  | _ => none
def aAppend (P : Program) (e : TypeId) (H : Hp) (s : AV) (m : Nat) (l : List AV) : Option (AV × Hp) := match elT P e with
  | some (sz, z) => match s with
    | .v (.slice none 0 0) => match Nat.blt 0 m, Nat.ble m 1000000, allOne l with
      | true, true, true => some (.sl H.n 0 0 m, H.new (.c l e sz false))
      | _, _, _ => none
    | .sk b o n c => match Nat.ble (n + m) c with
      | true => match putC H b (o + n * sz) l with
        | some H' => some (.sk b o (n + m) c, H')
        | none => none
      | false => match ldC H b o (n * sz), Nat.ble (n + m) 1000000, allOne l with
        | some cs, true, true => some (.sl H.n 0 0 (n + m), H.new (.c (cs ++ l) e sz false))
        | _, _, _ => none
    | .sl b o c n => match H.get b with
      | some (.c cs t y false) => match Nat.beq o 0, Nat.beq c 0, Nat.beq (n * sz) (lenL cs), Nat.ble H.r b && (Nat.beq y sz && Nat.beq t e), Nat.ble (n + m) 1000000 && allOne l with
        | true, true, true, true, true => some (.sl H.n 0 0 (n + m), (H.drop b).new (.c (cs ++ l) e sz false))
        | _, _, _, _, _ => none
      | _ => none
    | _ => none
  | none => none
/-- The cells that a slice or a string holds. -/
def aCells (H : Hp) (sz : Nat) : AV → Option (Nat × List AV)
  | .sl b o _ n => match ldC H b o (n * sz) with
    | some l => some (n, l)
    | none => none
  | .sk b o n _ => match ldC H b o (n * sz) with
    | some l => some (n, l)
    | none => none
  | .v (.slice none 0 0) => some (0, [])
  | _ => none
def putM (k : AV) (a : AV) : List (AV × AV) → Option (List (AV × AV))
  | [] => some [(k, a)]
  | (j, c) :: l => match sameI k j with
    | some true => some ((j, a) :: l)
    | some false => match putM k a l with
      | some r => some ((j, c) :: r)
      | none => none
    | none => none
def aApp (P : Program) (H : Hp) (st xt : TypeId) (s y : AV) : Option (AV × Hp) := match Nat.beq st xt, P.underlying st with
  | true, some (.slice e) => match szT P e with
    | some sz => match aCells H sz y with
      | some (0, _) => match s with
        | .v (.slice none 0 0) => some (s, H)
        | .sl _ _ _ _ => some (s, H)
        | .sk b o n c => match Nat.ble n c with
          | true => some (s, H)
          | false => none
        | _ => none
      | some (m + 1, l) => aAppend P e H s (m + 1) l
      | none => none
    | none => none
  | _, _ => none
def aPut (H : Hp) (b o sz n m : Nat) (l : List AV) : Option (AV × Hp) := match putC H b o (takeN ((Nat.min m n) * sz) l) with
  | some H' => some (.v (goInt (Nat.min m n)), H')
  | none => none
def aCopy (P : Program) (H : Hp) (dt : TypeId) (d y : AV) : Option (AV × Hp) := match P.underlying dt with
  | some (.slice e) => match szT P e with
    | some sz => match aCells H sz y with
      | some (m, l) => match d with
        | .sl b o _ n => aPut H b o sz n m l
        | .sk b o n _ => aPut H b o sz n m l
        | .v (.slice none 0 0) => some (.v (goInt 0), H)
        | _ => none
      | none => none
    | none => none
  | _ => none
def aUp (P : Program) (H : Hp) (t : TypeId) (m k v : AV) : Option (AV × Hp) := match m, P.underlying t with
  | .mp b, some (.map kt _) => match H.get b with
    | some (.mp es) => match mapOk P kt k es, putM k v es with
      | true, some es' => match H.putO b (.mp es') with
        | some H' => some (.v (.tuple #[]), H')
        | none => none
      | _, _ => none
    | _ => none
  | _, _ => none
/-- An operation that turns memory; none in the place of a value where there is none. -/
def aWrite (P : Program) (T : Tr AV) (H : Hp) (o : Oper) : Option (AV × Hp) := match o.op with
  | .store t a x => match evO T a, evO T x with
    | some (.ptr b i), some v => match aStore P t H b i v with
      | some H' => some (.v (.tuple #[]), H')
      | none => none
    | _, _ => none
  | .call c => match c.callee with
    | .builtin .append => match evL T c.args.toList, c.argTypes.toList with
      | some [s, y], [st, xt] => aApp P H st xt s y
      | _, _ => none
    | .builtin .copy => match evL T c.args.toList, c.argTypes.toList with
      | some [d, y], dt :: _ => aCopy P H dt d y
      | _, _ => none
    | _ => none
  | .mapUpdate t m k x => match evO T m, evO T k, evO T x with
    | some mv, some kv, some v => aUp P H t mv kv v
    | _, _, _ => none
  | .insert t m k x => match evO T m, evO T k, evO T x with
    | some mv, some kv, some v => aUp P H t mv kv v
    | _, _, _ => none
  | _ => none
inductive Kd where
  | pure | read | alloc | turn | call
def kdOf (P : Program) (o : Oper) : Kd := match o.op with
  | .load _ _ => .read
  | .lookup _ _ _ _ => .read
  | .convert s d _ => match P.underlying s with
    | some (.slice _) => .read
    | _ => .pure
  | .alloc _ => .alloc
  | .box _ _ => .alloc
  | .buildSlice _ _ _ => .alloc
  | .makeSlice _ _ _ => .alloc
  | .makeMap _ _ => .alloc
  | .store _ _ _ => .turn
  | .mapUpdate _ _ _ _ => .turn
  | .insert _ _ _ _ => .turn
  | .call c => match c.callee with
    | .value _ => .call
    | .invoke _ _ => .call
    | .builtin .len => .pure
    | .builtin .min => .pure
    | .builtin .max => .pure
    | .builtin _ => .turn
  | _ => .pure
end Go.Proofs.YtklanoppbbaolaaGreat
/- A closed run: the plan of a region, and the machine on data. No program is named here. -/
namespace Go.Proofs.YtklanoppbbaolaaGreat
open Go
set_option linter.unusedVariables false
/-- Which operations come before an operation, as a set of bits. -/
def maskE (M : Tr Nat) : List Edge → Nat
  | [] => 0
  | e :: l => match Region.binds .any e with
    | true => match M.get e.on with
      | some m => (maskE M l) ||| (m ||| (1 <<< e.on))
      | none => maskE M l
    | false => maskE M l
def masks : List Oper → Nat → Tr Nat → Tr Nat
  | [], _, M => M
  | o :: l, i, M => masks l (i + 1) (M.set FU i (some (maskE M o.after.toList)))
def bitA (M : Tr Nat) (i j : Nat) : Bool := match M.get i with
  | some m => m.testBit j
  | none => false
def isCh (P : Program) (o : Oper) : Bool := match kdOf P o with
  | .turn => true
  | .call => true
  | _ => false
def isRd (P : Program) (o : Oper) : Bool := match kdOf P o with
  | .read => true
  | _ => false
def chainL (P : Program) : List Oper → Nat → List Nat
  | [], _ => []
  | o :: l, i => match isCh P o with
    | true => i :: chainL P l (i + 1)
    | false => chainL P l (i + 1)
/-- How many of the chain come before operation i. -/
def clsN (M : Tr Nat) (i : Nat) : List Nat → Nat
  | [] => 0
  | c :: l => match bitA M i c with
    | true => clsN M i l + 1
    | false => 0
/-- How many of the chain may come before it. -/
def ubN (M : Tr Nat) (i : Nat) : List Nat → Nat
  | [] => 0
  | c :: l => match bitA M c i with
    | true => 0
    | false => ubN M i l + 1
/-- Who writes a slot. -/
def wrs : List Oper → Nat → Tr Nat → Option (Tr Nat)
  | [], _, W => some W
  | o :: l, i, W => match o.dst with
    | none => wrs l (i + 1) W
    | some d => match W.get d with
      | none => wrs l (i + 1) (W.set FU d (some i))
      | some _ => none
def freshL (P : Program) (M : Tr Nat) (cs : List Nat) (t : Nat) : List Oper → Nat → List Nat
  | [], _ => []
  | o :: l, i => match isCh P o, Nat.beq (clsN M i cs) t with
    | false, true => i :: freshL P M cs t l (i + 1)
    | _, _ => freshL P M cs t l (i + 1)
def againL (P : Program) (M : Tr Nat) (cs : List Nat) (t : Nat) : List Oper → Nat → List Nat
  | [], _ => []
  | o :: l, i => match isRd P o, Nat.blt (clsN M i cs) t, Nat.ble t (ubN M i cs) with
    | true, true, true => i :: againL P M cs t l (i + 1)
    | _, _, _ => againL P M cs t l (i + 1)
def stagesL (P : Program) (M : Tr Nat) (cs : List Nat) (ops : List Oper) : Nat → Nat → List (List Nat × List Nat)
  | 0, t => [(freshL P M cs t ops 0, againL P M cs t ops 0)]
  | n + 1, t => (freshL P M cs t ops 0, againL P M cs t ops 0) :: stagesL P M cs ops n (t + 1)
/-- The masks are what the edges say. -/
def edgB (i : Nat) : List Edge → Bool
  | [] => true
  | e :: l => match Region.binds .any e, Nat.blt e.on i with
    | true, false => false
    | _, _ => edgB i l
def okM (M : Tr Nat) : List Oper → Nat → Bool
  | [], _ => true
  | o :: l, i => match M.get i with
    | some m => match Nat.beq (maskE M o.after.toList) m, Nat.blt m (2 ^ i), edgB i o.after.toList with
      | true, true, true => okM M l (i + 1)
      | _, _, _ => false
    | none => false
/-- A slot has one writer. -/
def okW (W : Tr Nat) : List Oper → Nat → Bool
  | [], _ => true
  | o :: l, i => match o.dst with
    | none => okW W l (i + 1)
    | some d => match W.get d with
      | some j => match Nat.beq j i with
        | true => okW W l (i + 1)
        | false => false
      | none => false
/-- What an operation reads: written before and evaluated, or written behind and not evaluated yet. -/
def rdB (M W : Tr Nat) (Ev i : Nat) (strict : Bool) : List Operand → Bool
  | [] => true
  | .tmp d :: l => match W.get d with
    | none => rdB M W Ev i strict l
    | some j => match bitA M i j, Ev.testBit j, bitA M j i, strict with
      | true, true, _, _ => rdB M W Ev i strict l
      | false, false, true, false => rdB M W Ev i strict l
      | _, _, _, _ => false
  | _ :: l => rdB M W Ev i strict l
def grdB (M : Tr Nat) (ops : List Oper) (Ev i : Nat) (o : Oper) : Bool := match o.guard with
  | none => true
  | some (j, _) => match bitA M i j, Ev.testBit j with
    | true, true => true
    | _, _ => false
def ckF (P : Program) (M W : Tr Nat) (ops : List Oper) : List Nat → Nat → Option Nat
  | [], Ev => some Ev
  | i :: l, Ev => match nthL ops i with
    | some o => match isCh P o, Ev.testBit i, rdB M W Ev i false o.op.operands.toList, grdB M ops Ev i o with
      | false, false, true, true => ckF P M W ops l (Ev ||| (1 <<< i))
      | _, _, _, _ => none
    | none => none
def ckA (P : Program) (M W : Tr Nat) (ops : List Oper) (Ev : Nat) : List Nat → Bool
  | [] => true
  | i :: l => match nthL ops i with
    | some o => match isRd P o, Ev.testBit i, rdB M W Ev i true o.op.operands.toList, grdB M ops Ev i o with
      | true, true, true, true => ckA P M W ops Ev l
      | _, _, _, _ => false
    | none => false
def memN (i : Nat) : List Nat → Bool
  | [] => false
  | j :: l => match Nat.beq i j with
    | true => true
    | false => memN i l
/-- At a stage's end: what is not evaluated comes behind the next of the chain; a read that was evaluated before is read again, or is done. -/
def ckN (P : Program) (M : Tr Nat) (Ev0 Ev : Nat) (prev next : Option Nat) (ags : List Nat) : List Oper → Nat → Bool
  | [], _ => true
  | o :: l, i => match Ev.testBit i || (match next with | some c => Nat.beq i c || bitA M i c | none => false), (match isRd P o, Ev0.testBit i with
      | true, true => memN i ags || (match prev with | some c => bitA M c i | none => false)
      | _, _ => true) with
    | true, true => ckN P M Ev0 Ev prev next ags l (i + 1)
    | _, _ => false
def ckP (P : Program) (M W : Tr Nat) (ops : List Oper) : Option Nat → Nat → List Nat → List (List Nat × List Nat) → Bool
  | prev, Ev, cs, (fs, ags) :: st => match ckF P M W ops fs Ev with
    | none => false
    | some Ev' => match ckA P M W ops Ev' ags, cs with
      | true, [] => ckN P M Ev Ev' prev none ags ops 0
      | true, c :: cs => match nthL ops c with
        | some o => match ckN P M Ev Ev' prev (some c) ags ops 0, isCh P o, Ev'.testBit c, rdB M W Ev' c false o.op.operands.toList && grdB M ops Ev' c o with
          | true, true, false, true => ckP P M W ops (some c) (Ev' ||| (1 <<< c)) cs st
          | _, _, _, _ => false
        | none => false
      | false, _ => false
  | _, _, _, [] => false
def planM (P : Program) (ops : List Oper) (M : Tr Nat) (cs : List Nat) (st : List (List Nat × List Nat)) : Option (List Nat × List (List Nat × List Nat)) := match wrs ops 0 .lf with
  | some W => match okM M ops 0, okW W ops 0, ckP P M W ops none 0 cs st with
    | true, true, true => some (cs, st)
    | _, _, _ => none
  | none => none
def planC (P : Program) (ops : List Oper) (M : Tr Nat) (cs : List Nat) : Option (List Nat × List (List Nat × List Nat)) := planM P ops M cs (stagesL P M cs ops (lenL cs) 0)
def plan (P : Program) (ops : Array Oper) : Option (List Nat × List (List Nat × List Nat)) := planC P ops.toList (masks ops.toList 0 .lf) (chainL P ops.toList 0)
/-- Is an operation wanted. -/
def wantA (ops : Array Oper) (T : Tr AV) (o : Oper) : Option Bool := match o.guard with
  | none => some true
  | some (j, want) => match nthL ops.toList j with
    | some o' => match o'.dst with
      | some d => match T.get d with
        | some (.v (.bool b)) => some (b == want)
        | some (.v (.tuple _)) => some false
        | _ => none
      | none => none
    | none => none
def UV : AV := .v (.tuple #[])
def evalS (P : Program) (ops : Array Oper) (sz : Nat) : List Nat → Tr AV → Hp → Option (Tr AV × Hp)
  | [], T, H => some (T, H)
  | i :: l, T, H => match nthL ops.toList i with
    | none => none
    | some o => match o.dst with
      | none => none
      | some d => match Nat.blt d sz, wantA ops T o with
        | true, some false => evalS P ops sz l (T.set FU d (some UV)) H
        | true, some true => match kdOf P o with
          | .pure => match aPure P T o with
            | some a => evalS P ops sz l (T.set FU d (some a)) H
            | none => none
          | .read => match aRead P T H o with
            | some a => evalS P ops sz l (T.set FU d (some a)) H
            | none => none
          | .alloc => match aAlloc P T o, Nat.blt (H.n + 1) 1000000 with
            | some (ob, mk), true => evalS P ops sz l (T.set FU d (some (mk H.n))) (H.new ob)
            | _, _ => none
          | _ => none
        | _, _ => none
def veq : Value → Value → Bool
  | .int k a, .int k' b => match decide (k = k') with
    | true => a == b
    | false => false
  | .bool a, .bool b => a == b
  | .string a, .string b => a.data.toList == b.data.toList
  | .slice none a b, .slice none c d => a == c && b == d
  | .pointer none, .pointer none => true
  | .nilFunc, .nilFunc => true
  | .nilIface, .nilIface => true
  | .map none, .map none => true
  | .tuple a, .tuple b => match a.toList, b.toList with
    | [], [] => true
    | _, _ => false
  | _, _ => false
mutual
def eqA : AV → AV → Bool
  | .v x, .v y => veq x y
  | .ptr b o, .ptr c p => Nat.beq b c && Nat.beq o p
  | .sl b o e n, .sl c p f m => Nat.beq b c && Nat.beq o p && Nat.beq e f && Nat.beq n m
  | .sk b o e n, .sk c p f m => Nat.beq b c && Nat.beq o p && Nat.beq e f && Nat.beq n m
  | .agg l, .agg m => eqL l m
  | .tup l, .tup m => eqL l m
  | .ifc t a, .ifc u b => Nat.beq t u && eqA a b
  | .fn f a b, .fn g c d => Nat.beq f g && eqL a c && eqL b d
  | .yl b, .yl c => Nat.beq b c
  | .mp b, .mp c => Nat.beq b c
  | _, _ => false
def eqL : List AV → List AV → Bool
  | [], [] => true
  | a :: l, b :: m => eqA a b && eqL l m
  | _, _ => false
end
def againS (P : Program) (ops : Array Oper) : List Nat → Tr AV → Hp → Bool
  | [], _, _ => true
  | i :: l, T, H => match nthL ops.toList i with
    | none => false
    | some o => match o.dst with
      | none => false
      | some d => match wantA ops T o with
        | some false => againS P ops l T H
        | some true => match aRead P T H o, T.get d with
          | some a, some c => match eqA a c with
            | true => againS P ops l T H
            | false => false
          | _, _ => false
        | none => false
inductive AIt where
  | it (i : Item)
  | ops (o : Array Oper) (l : List Nat)
  | drg (o : Array Oper) (cs : List Nat) (st : List (List Nat × List Nat))
  | drc (o : Array Oper) (c : Nat) (cs : List Nat) (st : List (List Nat × List Nat))
  | rf (b : Nat)
  | erf (b : Nat)
structure AFr where
  fn : FuncId
  T : Tr AV
  sz : Nat
  todo : List AIt
  ro : Option Nat
  df : List Nat
structure MSt where
  fr : AFr
  cs : List AFr
  H : Hp
inductive Rn where
  | go (s : MSt)
  | done (v : AV) (H : Hp)
  | bad (why : Nat)
def putD (T : Tr AV) (sz : Nat) (d : Option Tmp) (v : AV) : Option (Tr AV) := match d with
  | none => some T
  | some d => match Nat.blt d sz with
    | true => some (T.set FU d (some v))
    | false => none
def aFin (fr : AFr) (v : AV) : Option AFr := match fr.todo with
  | .ops o (i :: l) :: k => match nthL o.toList i with
    | some op => match putD fr.T fr.sz op.dst v with
      | some T => some ⟨fr.fn, T, fr.sz, .ops o l :: k, fr.ro, fr.df⟩
      | none => none
    | none => none
  | .drc o c cs st :: k => match nthL o.toList c with
    | some op => match putD fr.T fr.sz op.dst v with
      | some T => some ⟨fr.fn, T, fr.sz, .drg o cs st :: k, fr.ro, fr.df⟩
      | none => none
    | none => none
  | .rf b :: k => some ⟨fr.fn, fr.T, fr.sz, .erf b :: k, fr.ro, fr.df⟩
  | _ => none
def aExit (id : Nat) : List AIt → Option (List AIt)
  | .it (.inBlock id') :: k => match Nat.beq id' id with
    | true => some k
    | false => aExit id k
  | _ :: k => aExit id k
  | [] => none
def initT : List AV → Nat → Tr AV → Tr AV
  | [], _, T => T
  | a :: l, k, T => initT l (k + 1) (T.set FU k (some a))
def setPs : List Tmp → List AV → Tr AV → Tr AV
  | d :: l, a :: m, T => setPs l m (T.set FU d (some a))
  | _, _, T => T
def allLt (sz : Nat) : List Tmp → Bool
  | [] => true
  | d :: l => match Nat.blt d sz with
    | true => allLt sz l
    | false => false
def aEnter (P : Program) (g : FuncId) (args : List AV) : Option AFr := match P.funcs[g]? with
  | some fn => match fn.body, fn.name == "runtime.NumGoroutine" with
    | some c, false => match Nat.blt (Nat.max (lenL args) fn.ntmps) 1000000 with
      | true => some ⟨g, initT args 0 .lf, Nat.max (lenL args) fn.ntmps, [.it (.code c)], none, []⟩
      | false => none
    | _, _ => none
  | none => none
def aYield (H : Hp) (l : Nat) (args : List AV) : Option AFr := match H.get l with
  | some (.lp st pend fn T tz ps asg bd d) => match Nat.beq (lenL args) (lenL ps.toList), Nat.blt tz 1000000 && allLt tz ps.toList with
    | true, true => some ⟨fn, setPs ps.toList args T, tz, [.it (.code asg), .it .beginRound, .it (.code bd)], some l, []⟩
    | _, _ => none
  | _ => none
def resL (P : Program) (T : Tr AV) (H : Hp) : List ResultVar → Option (List AV)
  | [] => some []
  | .tmp t :: l => match T.get t, resL P T H l with
    | some a, some r => some (a :: r)
    | _, _ => none
  | .cell a t :: l => match T.get a with
    | some (.ptr b o) => match aLoad P t H b o, resL P T H l with
      | some v, some r => some (v :: r)
      | _, _ => none
    | _ => none
def resV (P : Program) (T : Tr AV) (H : Hp) (fn : Func) : Option AV := match resL P T H fn.results.toList with
  | some [a] => some a
  | some l => some (.tup l)
  | none => none
def takeDf (H : Hp) : List Nat → Option Hp
  | [] => some H
  | b :: l => match H.get b with
    | some .df => match Nat.ble H.r b with
      | true => takeDf (H.drop b) l
      | false => none
    | _ => none
def pop (v : AV) (cs : List AFr) (H : Hp) : Rn := match cs with
  | [] => .done v H
  | c :: cs => match aFin c v with
    | some c => .go ⟨c, cs, H⟩
    | none => .bad 1
def leave (P : Program) (fr : AFr) (cs : List AFr) (H : Hp) (jump : Option Code) : Rn := match fr.ro with
  | none => match jump with
    | none | some .ret => match takeDf H fr.df, P.funcs[fr.fn]? with
      | some H, some fn => match resV P fr.T H fn with
        | some v => pop v cs H
        | none => .bad 2
      | _, _ => .bad 3
    | _ => .bad 4
  | some l => match H.get l with
    | some (.lp st pend fn T tz ps asg bd d) => match cs with
      | c :: cs => match aFin c (.v (.bool jump.isNone)) with
        | some c => match H.putO l (.lp (match jump with | none => .ready | some _ => .done) jump fn T tz ps asg bd d) with
          | some H => .go ⟨c, cs, H⟩
          | none => .bad 37
        | none => .bad 5
      | [] => .bad 6
    | _ => .bad 7
def mvOn (fr : AFr) (cs : List AFr) (H : Hp) (k : List AIt) : Rn := .go ⟨⟨fr.fn, fr.T, fr.sz, k, fr.ro, fr.df⟩, cs, H⟩
def callF (P : Program) (prim : FuncId → List AV → Option AV) (fr : AFr) (cs : List AFr) (H : Hp) (g : FuncId) (args : List AV) : Rn := match prim g args with
  | some v => pop v (fr :: cs) H
  | none => match aEnter P g args with
    | some nf => .go ⟨nf, fr :: cs, H⟩
    | none => .bad 8
def callA (P : Program) (prim : FuncId → List AV → Option AV) (fr : AFr) (cs : List AFr) (H : Hp) (f : AV) (args : List AV) : Rn := match f with
  | .fn g fst caps => callF P prim fr cs H g (fst ++ (args ++ caps))
  | .yl l => match aYield H l args with
    | some nf => .go ⟨nf, fr :: cs, H⟩
    | none => .bad 9
  | _ => .bad 11
/-- One operation, its order known. -/
def oneOp (P : Program) (prim : FuncId → List AV → Option AV) (fr : AFr) (cs : List AFr) (H : Hp) (o : Oper) : Rn := match kdOf P o with
  | .pure => match aPure P fr.T o with
    | some a => pop a (fr :: cs) H
    | none => .bad 12
  | .read => match aRead P fr.T H o with
    | some a => pop a (fr :: cs) H
    | none => .bad 13
  | .alloc => match aAlloc P fr.T o, Nat.blt (H.n + 1) 1000000 with
    | some (ob, mk), true => pop (mk H.n) (fr :: cs) (H.new ob)
    | _, _ => .bad 14
  | .turn => match aWrite P fr.T H o, Nat.blt (H.n + 1) 1000000 with
    | some (a, H), true => pop a (fr :: cs) H
    | _, _ => .bad 15
  | .call => match o.op with
    | .call c => match c.callee with
      | .value f => match evO fr.T f, evL fr.T c.args.toList with
        | some f, some args => callA P prim fr cs H f args
        | _, _ => .bad 16
      | _ => .bad 17
    | _ => .bad 18
def aStep (P : Program) (prim : FuncId → List AV → Option AV) (s : MSt) : Rn := match s.fr.todo with
  | [] => leave P s.fr s.cs s.H none
  | .ops o [] :: k => mvOn s.fr s.cs s.H k
  | .ops o (i :: l) :: k => match nthL o.toList i with
    | none => .bad 19
    | some op => match wantA o s.fr.T op with
      | some false => pop UV (s.fr :: s.cs) s.H
      | some true => oneOp P prim s.fr s.cs s.H op
      | none => .bad 20
  | .drg o cs ((fs, ags) :: st) :: k => match evalS P o s.fr.sz fs s.fr.T s.H with
    | none => .bad 21
    | some (T, H) => match againS P o ags T H with
      | false => .bad 22
      | true => match cs with
        | [] => .go ⟨⟨s.fr.fn, T, s.fr.sz, k, s.fr.ro, s.fr.df⟩, s.cs, H⟩
        | c :: cs => .go ⟨⟨s.fr.fn, T, s.fr.sz, .drc o c cs st :: k, s.fr.ro, s.fr.df⟩, s.cs, H⟩
  | .drg _ _ [] :: _ => .bad 23
  | .drc o c cs st :: k => match nthL o.toList c with
    | none => .bad 24
    | some op => match wantA o s.fr.T op with
      | some false => pop UV (s.fr :: s.cs) s.H
      | some true => oneOp P prim s.fr s.cs s.H op
      | none => .bad 25
  | .rf _ :: _ => .bad 26
  | .erf b :: k => match s.H.get b with
    | some (.lp st pend fn T tz ps asg bd d) => match st with
      | .busy => .bad 27
      | _ => match s.H.putO b (.lp .exhausted pend fn T tz ps asg bd d) with
        | some H => match pend with
          | none => mvOn s.fr s.cs H k
          | some c => mvOn s.fr s.cs H (.it (.code c) :: k)
        | none => .bad 38
    | _ => .bad 28
  | .it i :: k => match i with
    | .inBlock _ => mvOn s.fr s.cs s.H k
    | .inScope _ => mvOn s.fr s.cs s.H k
    | .inLoop b => mvOn s.fr s.cs s.H (.it (.code b) :: .it (.inLoop b) :: k)
    | .beginRound => match s.fr.ro with
      | some l => match s.H.get l with
        | some (.lp .ready pend fn T tz ps asg bd d) => match s.H.putO l (.lp .busy pend fn T tz ps asg bd d) with
          | some H => mvOn s.fr s.cs H k
          | none => .bad 39
        | _ => .bad 29
      | none => .bad 30
    | .code c => match c with
      | .skip => mvOn s.fr s.cs s.H k
      | .label _ => mvOn s.fr s.cs s.H k
      | .seq a b => mvOn s.fr s.cs s.H (.it (.code a) :: .it (.code b) :: k)
      | .cond y a b => match evO s.fr.T y with
        | some (.v (.bool true)) => mvOn s.fr s.cs s.H (.it (.code a) :: k)
        | some (.v (.bool false)) => mvOn s.fr s.cs s.H (.it (.code b) :: k)
        | _ => .bad 31
      | .block id b => mvOn s.fr s.cs s.H (.it (.code b) :: .it (.inBlock id) :: k)
      | .loop b => mvOn s.fr s.cs s.H (.it (.code b) :: .it (.inLoop b) :: k)
      | .scope b => mvOn s.fr s.cs s.H (.it (.code b) :: .it (.inScope b) :: k)
      | .exit id => match aExit id k with
        | some k => mvOn s.fr s.cs s.H k
        | none => leave P s.fr s.cs s.H (some (.exit id))
      | .ret => leave P s.fr s.cs s.H (some .ret)
      | .region _ o true => match plan P o with
        | some (cs, st) => mvOn s.fr s.cs s.H (.drg o cs st :: k)
        | none => .bad 32
      | .region _ o false => mvOn s.fr s.cs s.H (.ops o (List.range o.size) :: k)
      | .rangeFunc f ps asg bd => match evO s.fr.T f, Nat.blt (s.H.n + 2) 1000000 with
        | some (.fn g fst caps), true => match s.fr.ro with
          | none => callF P prim ⟨s.fr.fn, s.fr.T, s.fr.sz, .rf (s.H.n + 1) :: k, s.fr.ro, s.H.n :: s.fr.df⟩ s.cs ((s.H.new .df).new (.lp .ready none s.fr.fn s.fr.T s.fr.sz ps asg bd s.H.n)) g (fst ++ (.yl (s.H.n + 1) :: caps))
          | some l => match s.H.get l with
            | some (.lp _ _ _ _ _ _ _ _ d) => callF P prim ⟨s.fr.fn, s.fr.T, s.fr.sz, .rf s.H.n :: k, s.fr.ro, s.fr.df⟩ s.cs (s.H.new (.lp .ready none s.fr.fn s.fr.T s.fr.sz ps asg bd d)) g (fst ++ (.yl s.H.n :: caps))
            | _ => .bad 33
        | _, _ => .bad 34
      | _ => .bad 35
    | _ => .bad 36
def aRun (P : Program) (prim : FuncId → List AV → Option AV) : Nat → MSt → Rn
  | 0, s => .go s
  | n + 1, s => match aStep P prim s with
    | .go s => aRun P prim n s
    | r => r
end Go.Proofs.YtklanoppbbaolaaGreat
