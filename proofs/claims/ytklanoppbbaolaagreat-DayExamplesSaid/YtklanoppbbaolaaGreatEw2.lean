/- A closed run: the plan of a region, and the machine on data. No program is named here. -/
import Derived.Test.YtklanoppbbaolaaGreatEw1
namespace Go.Proofs.YtklanoppbbaolaaGreat
open Go
set_option linter.unusedVariables false
/-- Which operations come before an operation, as a set of bits. -/
def maskE (M : Tr Nat) : List Edge → Nat
  | [] => 0
  | e :: l => match Region.binds .any e with
    | true => match M.get e.on with
      | some m => (maskE M l) ||| (m ||| (1 <<< e.on))
      | none => maskE M l
    | false => maskE M l
def masks : List Oper → Nat → Tr Nat → Tr Nat
  | [], _, M => M
  | o :: l, i, M => masks l (i + 1) (M.set FU i (some (maskE M o.after.toList)))
def bitA (M : Tr Nat) (i j : Nat) : Bool := match M.get i with
  | some m => m.testBit j
  | none => false
def isCh (P : Program) (o : Oper) : Bool := match kdOf P o with
  | .turn => true
  | .call => true
  | _ => false
def isRd (P : Program) (o : Oper) : Bool := match kdOf P o with
  | .read => true
  | _ => false
def chainL (P : Program) : List Oper → Nat → List Nat
  | [], _ => []
  | o :: l, i => match isCh P o with
    | true => i :: chainL P l (i + 1)
    | false => chainL P l (i + 1)
/-- How many of the chain come before operation i. -/
def clsN (M : Tr Nat) (i : Nat) : List Nat → Nat
  | [] => 0
  | c :: l => match bitA M i c with
    | true => clsN M i l + 1
    | false => 0
/-- How many of the chain may come before it. -/
def ubN (M : Tr Nat) (i : Nat) : List Nat → Nat
  | [] => 0
  | c :: l => match bitA M c i with
    | true => 0
    | false => ubN M i l + 1
/-- Who writes a slot. -/
def wrs : List Oper → Nat → Tr Nat → Option (Tr Nat)
  | [], _, W => some W
  | o :: l, i, W => match o.dst with
    | none => wrs l (i + 1) W
    | some d => match W.get d with
      | none => wrs l (i + 1) (W.set FU d (some i))
      | some _ => none
def freshL (P : Program) (M : Tr Nat) (cs : List Nat) (t : Nat) : List Oper → Nat → List Nat
  | [], _ => []
  | o :: l, i => match isCh P o, Nat.beq (clsN M i cs) t with
    | false, true => i :: freshL P M cs t l (i + 1)
    | _, _ => freshL P M cs t l (i + 1)
def againL (P : Program) (M : Tr Nat) (cs : List Nat) (t : Nat) : List Oper → Nat → List Nat
  | [], _ => []
  | o :: l, i => match isRd P o, Nat.blt (clsN M i cs) t, Nat.ble t (ubN M i cs) with
    | true, true, true => i :: againL P M cs t l (i + 1)
    | _, _, _ => againL P M cs t l (i + 1)
def stagesL (P : Program) (M : Tr Nat) (cs : List Nat) (ops : List Oper) : Nat → Nat → List (List Nat × List Nat)
  | 0, t => [(freshL P M cs t ops 0, againL P M cs t ops 0)]
  | n + 1, t => (freshL P M cs t ops 0, againL P M cs t ops 0) :: stagesL P M cs ops n (t + 1)
/-- The masks are what the edges say. -/
def edgB (i : Nat) : List Edge → Bool
  | [] => true
  | e :: l => match Region.binds .any e, Nat.blt e.on i with
    | true, false => false
    | _, _ => edgB i l
def okM (M : Tr Nat) : List Oper → Nat → Bool
  | [], _ => true
  | o :: l, i => match M.get i with
    | some m => match Nat.beq (maskE M o.after.toList) m, Nat.blt m (2 ^ i), edgB i o.after.toList with
      | true, true, true => okM M l (i + 1)
      | _, _, _ => false
    | none => false
/-- A slot has one writer. -/
def okW (W : Tr Nat) : List Oper → Nat → Bool
  | [], _ => true
  | o :: l, i => match o.dst with
    | none => okW W l (i + 1)
    | some d => match W.get d with
      | some j => match Nat.beq j i with
        | true => okW W l (i + 1)
        | false => false
      | none => false
/-- What an operation reads: written before and evaluated, or written behind and not evaluated yet. -/
def rdB (M W : Tr Nat) (Ev i : Nat) (strict : Bool) : List Operand → Bool
  | [] => true
  | .tmp d :: l => match W.get d with
    | none => rdB M W Ev i strict l
    | some j => match bitA M i j, Ev.testBit j, bitA M j i, strict with
      | true, true, _, _ => rdB M W Ev i strict l
      | false, false, true, false => rdB M W Ev i strict l
      | _, _, _, _ => false
  | _ :: l => rdB M W Ev i strict l
def grdB (M : Tr Nat) (ops : List Oper) (Ev i : Nat) (o : Oper) : Bool := match o.guard with
  | none => true
  | some (j, _) => match bitA M i j, Ev.testBit j with
    | true, true => true
    | _, _ => false
def ckF (P : Program) (M W : Tr Nat) (ops : List Oper) : List Nat → Nat → Option Nat
  | [], Ev => some Ev
  | i :: l, Ev => match nthL ops i with
    | some o => match isCh P o, Ev.testBit i, rdB M W Ev i false o.op.operands.toList, grdB M ops Ev i o with
      | false, false, true, true => ckF P M W ops l (Ev ||| (1 <<< i))
      | _, _, _, _ => none
    | none => none
def ckA (P : Program) (M W : Tr Nat) (ops : List Oper) (Ev : Nat) : List Nat → Bool
  | [] => true
  | i :: l => match nthL ops i with
    | some o => match isRd P o, Ev.testBit i, rdB M W Ev i true o.op.operands.toList, grdB M ops Ev i o with
      | true, true, true, true => ckA P M W ops Ev l
      | _, _, _, _ => false
    | none => false
def memN (i : Nat) : List Nat → Bool
  | [] => false
  | j :: l => match Nat.beq i j with
    | true => true
    | false => memN i l
/-- At a stage's end: what is not evaluated comes behind the next of the chain; a read that was evaluated before is read again, or is done. -/
def ckN (P : Program) (M : Tr Nat) (Ev0 Ev : Nat) (prev next : Option Nat) (ags : List Nat) : List Oper → Nat → Bool
  | [], _ => true
  | o :: l, i => match Ev.testBit i || (match next with | some c => Nat.beq i c || bitA M i c | none => false), (match isRd P o, Ev0.testBit i with
      | true, true => memN i ags || (match prev with | some c => bitA M c i | none => false)
      | _, _ => true) with
    | true, true => ckN P M Ev0 Ev prev next ags l (i + 1)
    | _, _ => false
def ckP (P : Program) (M W : Tr Nat) (ops : List Oper) : Option Nat → Nat → List Nat → List (List Nat × List Nat) → Bool
  | prev, Ev, cs, (fs, ags) :: st => match ckF P M W ops fs Ev with
    | none => false
    | some Ev' => match ckA P M W ops Ev' ags, cs with
      | true, [] => ckN P M Ev Ev' prev none ags ops 0
      | true, c :: cs => match nthL ops c with
        | some o => match ckN P M Ev Ev' prev (some c) ags ops 0, isCh P o, Ev'.testBit c, rdB M W Ev' c false o.op.operands.toList && grdB M ops Ev' c o with
          | true, true, false, true => ckP P M W ops (some c) (Ev' ||| (1 <<< c)) cs st
          | _, _, _, _ => false
        | none => false
      | false, _ => false
  | _, _, _, [] => false
def planM (P : Program) (ops : List Oper) (M : Tr Nat) (cs : List Nat) (st : List (List Nat × List Nat)) : Option (List Nat × List (List Nat × List Nat)) := match wrs ops 0 .lf with
  | some W => match okM M ops 0, okW W ops 0, ckP P M W ops none 0 cs st with
    | true, true, true => some (cs, st)
    | _, _, _ => none
  | none => none
def planC (P : Program) (ops : List Oper) (M : Tr Nat) (cs : List Nat) : Option (List Nat × List (List Nat × List Nat)) := planM P ops M cs (stagesL P M cs ops (lenL cs) 0)
def plan (P : Program) (ops : Array Oper) : Option (List Nat × List (List Nat × List Nat)) := planC P ops.toList (masks ops.toList 0 .lf) (chainL P ops.toList 0)
/-- Is an operation wanted. -/
def wantA (ops : Array Oper) (T : Tr AV) (o : Oper) : Option Bool := match o.guard with
  | none => some true
  | some (j, want) => match nthL ops.toList j with
    | some o' => match o'.dst with
      | some d => match T.get d with
        | some (.v (.bool b)) => some (b == want)
        | some (.v (.tuple _)) => some false
        | _ => none
      | none => none
    | none => none
def UV : AV := .v (.tuple #[])
def evalS (P : Program) (ops : Array Oper) (sz : Nat) : List Nat → Tr AV → Hp → Option (Tr AV × Hp)
  | [], T, H => some (T, H)
  | i :: l, T, H => match nthL ops.toList i with
    | none => none
    | some o => match o.dst with
      | none => none
      | some d => match Nat.blt d sz, wantA ops T o with
        | true, some false => evalS P ops sz l (T.set FU d (some UV)) H
        | true, some true => match kdOf P o with
          | .pure => match aPure P T o with
            | some a => evalS P ops sz l (T.set FU d (some a)) H
            | none => none
          | .read => match aRead P T H o with
            | some a => evalS P ops sz l (T.set FU d (some a)) H
            | none => none
          | .alloc => match aAlloc P T o, Nat.blt (H.n + 1) 1000000 with
            | some (ob, mk), true => evalS P ops sz l (T.set FU d (some (mk H.n))) (H.new ob)
            | _, _ => none
          | _ => none
        | _, _ => none
def veq : Value → Value → Bool
  | .int k a, .int k' b => match decide (k = k') with
    | true => a == b
    | false => false
  | .bool a, .bool b => a == b
  | .string a, .string b => a.data.toList == b.data.toList
  | .slice none a b, .slice none c d => a == c && b == d
  | .pointer none, .pointer none => true
  | .nilFunc, .nilFunc => true
  | .nilIface, .nilIface => true
  | .map none, .map none => true
  | .tuple a, .tuple b => match a.toList, b.toList with
    | [], [] => true
    | _, _ => false
  | _, _ => false
mutual
def eqA : AV → AV → Bool
  | .v x, .v y => veq x y
  | .ptr b o, .ptr c p => Nat.beq b c && Nat.beq o p
  | .sl b o e n, .sl c p f m => Nat.beq b c && Nat.beq o p && Nat.beq e f && Nat.beq n m
  | .sk b o e n, .sk c p f m => Nat.beq b c && Nat.beq o p && Nat.beq e f && Nat.beq n m
  | .agg l, .agg m => eqL l m
  | .tup l, .tup m => eqL l m
  | .ifc t a, .ifc u b => Nat.beq t u && eqA a b
  | .fn f a b, .fn g c d => Nat.beq f g && eqL a c && eqL b d
  | .yl b, .yl c => Nat.beq b c
  | .mp b, .mp c => Nat.beq b c
  | _, _ => false
def eqL : List AV → List AV → Bool
  | [], [] => true
  | a :: l, b :: m => eqA a b && eqL l m
  | _, _ => false
end
def againS (P : Program) (ops : Array Oper) : List Nat → Tr AV → Hp → Bool
  | [], _, _ => true
  | i :: l, T, H => match nthL ops.toList i with
    | none => false
    | some o => match o.dst with
      | none => false
      | some d => match wantA ops T o with
        | some false => againS P ops l T H
        | some true => match aRead P T H o, T.get d with
          | some a, some c => match eqA a c with
            | true => againS P ops l T H
            | false => false
          | _, _ => false
        | none => false
inductive AIt where
  | it (i : Item)
  | ops (o : Array Oper) (l : List Nat)
  | drg (o : Array Oper) (cs : List Nat) (st : List (List Nat × List Nat))
  | drc (o : Array Oper) (c : Nat) (cs : List Nat) (st : List (List Nat × List Nat))
  | rf (b : Nat)
  | erf (b : Nat)
structure AFr where
  fn : FuncId
  T : Tr AV
  sz : Nat
  todo : List AIt
  ro : Option Nat
  df : List Nat
structure MSt where
  fr : AFr
  cs : List AFr
  H : Hp
inductive Rn where
  | go (s : MSt)
  | done (v : AV) (H : Hp)
  | bad (why : Nat)
def putD (T : Tr AV) (sz : Nat) (d : Option Tmp) (v : AV) : Option (Tr AV) := match d with
  | none => some T
  | some d => match Nat.blt d sz with
    | true => some (T.set FU d (some v))
    | false => none
def aFin (fr : AFr) (v : AV) : Option AFr := match fr.todo with
  | .ops o (i :: l) :: k => match nthL o.toList i with
    | some op => match putD fr.T fr.sz op.dst v with
      | some T => some ⟨fr.fn, T, fr.sz, .ops o l :: k, fr.ro, fr.df⟩
      | none => none
    | none => none
  | .drc o c cs st :: k => match nthL o.toList c with
    | some op => match putD fr.T fr.sz op.dst v with
      | some T => some ⟨fr.fn, T, fr.sz, .drg o cs st :: k, fr.ro, fr.df⟩
      | none => none
    | none => none
  | .rf b :: k => some ⟨fr.fn, fr.T, fr.sz, .erf b :: k, fr.ro, fr.df⟩
  | _ => none
def aExit (id : Nat) : List AIt → Option (List AIt)
  | .it (.inBlock id') :: k => match Nat.beq id' id with
    | true => some k
    | false => aExit id k
  | _ :: k => aExit id k
  | [] => none
def initT : List AV → Nat → Tr AV → Tr AV
  | [], _, T => T
  | a :: l, k, T => initT l (k + 1) (T.set FU k (some a))
def setPs : List Tmp → List AV → Tr AV → Tr AV
  | d :: l, a :: m, T => setPs l m (T.set FU d (some a))
  | _, _, T => T
def allLt (sz : Nat) : List Tmp → Bool
  | [] => true
  | d :: l => match Nat.blt d sz with
    | true => allLt sz l
    | false => false
def aEnter (P : Program) (g : FuncId) (args : List AV) : Option AFr := match P.funcs[g]? with
  | some fn => match fn.body, fn.name == "runtime.NumGoroutine" with
    | some c, false => match Nat.blt (Nat.max (lenL args) fn.ntmps) 1000000 with
      | true => some ⟨g, initT args 0 .lf, Nat.max (lenL args) fn.ntmps, [.it (.code c)], none, []⟩
      | false => none
    | _, _ => none
  | none => none
def aYield (H : Hp) (l : Nat) (args : List AV) : Option AFr := match H.get l with
  | some (.lp st pend fn T tz ps as bd d) => match Nat.beq (lenL args) (lenL ps.toList), Nat.blt tz 1000000 && allLt tz ps.toList with
    | true, true => some ⟨fn, setPs ps.toList args T, tz, [.it (.code as), .it .beginRound, .it (.code bd)], some l, []⟩
    | _, _ => none
  | _ => none
def resL (P : Program) (T : Tr AV) (H : Hp) : List ResultVar → Option (List AV)
  | [] => some []
  | .tmp t :: l => match T.get t, resL P T H l with
    | some a, some r => some (a :: r)
    | _, _ => none
  | .cell a t :: l => match T.get a with
    | some (.ptr b o) => match aLoad P t H b o, resL P T H l with
      | some v, some r => some (v :: r)
      | _, _ => none
    | _ => none
def resV (P : Program) (T : Tr AV) (H : Hp) (fn : Func) : Option AV := match resL P T H fn.results.toList with
  | some [a] => some a
  | some l => some (.tup l)
  | none => none
def takeDf (H : Hp) : List Nat → Option Hp
  | [] => some H
  | b :: l => match H.get b with
    | some .df => match Nat.ble H.r b with
      | true => takeDf (H.drop b) l
      | false => none
    | _ => none
def pop (v : AV) (cs : List AFr) (H : Hp) : Rn := match cs with
  | [] => .done v H
  | c :: cs => match aFin c v with
    | some c => .go ⟨c, cs, H⟩
    | none => .bad 1
def leave (P : Program) (fr : AFr) (cs : List AFr) (H : Hp) (jump : Option Code) : Rn := match fr.ro with
  | none => match jump with
    | none | some .ret => match takeDf H fr.df, P.funcs[fr.fn]? with
      | some H, some fn => match resV P fr.T H fn with
        | some v => pop v cs H
        | none => .bad 2
      | _, _ => .bad 3
    | _ => .bad 4
  | some l => match H.get l with
    | some (.lp st pend fn T tz ps as bd d) => match cs with
      | c :: cs => match aFin c (.v (.bool jump.isNone)) with
        | some c => match H.putO l (.lp (match jump with | none => .ready | some _ => .done) jump fn T tz ps as bd d) with
          | some H => .go ⟨c, cs, H⟩
          | none => .bad 37
        | none => .bad 5
      | [] => .bad 6
    | _ => .bad 7
def mvOn (fr : AFr) (cs : List AFr) (H : Hp) (k : List AIt) : Rn := .go ⟨⟨fr.fn, fr.T, fr.sz, k, fr.ro, fr.df⟩, cs, H⟩
def callF (P : Program) (prim : FuncId → List AV → Option AV) (fr : AFr) (cs : List AFr) (H : Hp) (g : FuncId) (args : List AV) : Rn := match prim g args with
  | some v => pop v (fr :: cs) H
  | none => match aEnter P g args with
    | some nf => .go ⟨nf, fr :: cs, H⟩
    | none => .bad 8
def callA (P : Program) (prim : FuncId → List AV → Option AV) (fr : AFr) (cs : List AFr) (H : Hp) (f : AV) (args : List AV) : Rn := match f with
  | .fn g fst caps => callF P prim fr cs H g (fst ++ (args ++ caps))
  | .yl l => match aYield H l args with
    | some nf => .go ⟨nf, fr :: cs, H⟩
    | none => .bad 9
  | _ => .bad 11
/-- One operation, its order known. -/
def oneOp (P : Program) (prim : FuncId → List AV → Option AV) (fr : AFr) (cs : List AFr) (H : Hp) (o : Oper) : Rn := match kdOf P o with
  | .pure => match aPure P fr.T o with
    | some a => pop a (fr :: cs) H
    | none => .bad 12
  | .read => match aRead P fr.T H o with
    | some a => pop a (fr :: cs) H
    | none => .bad 13
  | .alloc => match aAlloc P fr.T o, Nat.blt (H.n + 1) 1000000 with
    | some (ob, mk), true => pop (mk H.n) (fr :: cs) (H.new ob)
    | _, _ => .bad 14
  | .turn => match aWrite P fr.T H o, Nat.blt (H.n + 1) 1000000 with
    | some (a, H), true => pop a (fr :: cs) H
    | _, _ => .bad 15
  | .call => match o.op with
    | .call c => match c.callee with
      | .value f => match evO fr.T f, evL fr.T c.args.toList with
        | some f, some args => callA P prim fr cs H f args
        | _, _ => .bad 16
      | _ => .bad 17
    | _ => .bad 18
def aStep (P : Program) (prim : FuncId → List AV → Option AV) (s : MSt) : Rn := match s.fr.todo with
  | [] => leave P s.fr s.cs s.H none
  | .ops o [] :: k => mvOn s.fr s.cs s.H k
  | .ops o (i :: l) :: k => match nthL o.toList i with
    | none => .bad 19
    | some op => match wantA o s.fr.T op with
      | some false => pop UV (s.fr :: s.cs) s.H
      | some true => oneOp P prim s.fr s.cs s.H op
      | none => .bad 20
  | .drg o cs ((fs, ags) :: st) :: k => match evalS P o s.fr.sz fs s.fr.T s.H with
    | none => .bad 21
    | some (T, H) => match againS P o ags T H with
      | false => .bad 22
      | true => match cs with
        | [] => .go ⟨⟨s.fr.fn, T, s.fr.sz, k, s.fr.ro, s.fr.df⟩, s.cs, H⟩
        | c :: cs => .go ⟨⟨s.fr.fn, T, s.fr.sz, .drc o c cs st :: k, s.fr.ro, s.fr.df⟩, s.cs, H⟩
  | .drg _ _ [] :: _ => .bad 23
  | .drc o c cs st :: k => match nthL o.toList c with
    | none => .bad 24
    | some op => match wantA o s.fr.T op with
      | some false => pop UV (s.fr :: s.cs) s.H
      | some true => oneOp P prim s.fr s.cs s.H op
      | none => .bad 25
  | .rf _ :: _ => .bad 26
  | .erf b :: k => match s.H.get b with
    | some (.lp st pend fn T tz ps as bd d) => match st with
      | .busy => .bad 27
      | _ => match s.H.putO b (.lp .exhausted pend fn T tz ps as bd d) with
        | some H => match pend with
          | none => mvOn s.fr s.cs H k
          | some c => mvOn s.fr s.cs H (.it (.code c) :: k)
        | none => .bad 38
    | _ => .bad 28
  | .it i :: k => match i with
    | .inBlock _ => mvOn s.fr s.cs s.H k
    | .inScope _ => mvOn s.fr s.cs s.H k
    | .inLoop b => mvOn s.fr s.cs s.H (.it (.code b) :: .it (.inLoop b) :: k)
    | .beginRound => match s.fr.ro with
      | some l => match s.H.get l with
        | some (.lp .ready pend fn T tz ps as bd d) => match s.H.putO l (.lp .busy pend fn T tz ps as bd d) with
          | some H => mvOn s.fr s.cs H k
          | none => .bad 39
        | _ => .bad 29
      | none => .bad 30
    | .code c => match c with
      | .skip => mvOn s.fr s.cs s.H k
      | .label _ => mvOn s.fr s.cs s.H k
      | .seq a b => mvOn s.fr s.cs s.H (.it (.code a) :: .it (.code b) :: k)
      | .cond y a b => match evO s.fr.T y with
        | some (.v (.bool true)) => mvOn s.fr s.cs s.H (.it (.code a) :: k)
        | some (.v (.bool false)) => mvOn s.fr s.cs s.H (.it (.code b) :: k)
        | _ => .bad 31
      | .block id b => mvOn s.fr s.cs s.H (.it (.code b) :: .it (.inBlock id) :: k)
      | .loop b => mvOn s.fr s.cs s.H (.it (.code b) :: .it (.inLoop b) :: k)
      | .scope b => mvOn s.fr s.cs s.H (.it (.code b) :: .it (.inScope b) :: k)
      | .exit id => match aExit id k with
        | some k => mvOn s.fr s.cs s.H k
        | none => leave P s.fr s.cs s.H (some (.exit id))
      | .ret => leave P s.fr s.cs s.H (some .ret)
      | .region _ o true => match plan P o with
        | some (cs, st) => mvOn s.fr s.cs s.H (.drg o cs st :: k)
        | none => .bad 32
      | .region _ o false => mvOn s.fr s.cs s.H (.ops o (List.range o.size) :: k)
      | .rangeFunc f ps as bd => match evO s.fr.T f, Nat.blt (s.H.n + 2) 1000000 with
        | some (.fn g fst caps), true => match s.fr.ro with
          | none => callF P prim ⟨s.fr.fn, s.fr.T, s.fr.sz, .rf (s.H.n + 1) :: k, s.fr.ro, s.H.n :: s.fr.df⟩ s.cs ((s.H.new .df).new (.lp .ready none s.fr.fn s.fr.T s.fr.sz ps as bd s.H.n)) g (fst ++ (.yl (s.H.n + 1) :: caps))
          | some l => match s.H.get l with
            | some (.lp _ _ _ _ _ _ _ _ d) => callF P prim ⟨s.fr.fn, s.fr.T, s.fr.sz, .rf s.H.n :: k, s.fr.ro, s.fr.df⟩ s.cs (s.H.new (.lp .ready none s.fr.fn s.fr.T s.fr.sz ps as bd d)) g (fst ++ (.yl s.H.n :: caps))
            | _ => .bad 33
        | _, _ => .bad 34
      | _ => .bad 35
    | _ => .bad 36
def aRun (P : Program) (prim : FuncId → List AV → Option AV) : Nat → MSt → Rn
  | 0, s => .go s
  | n + 1, s => match aStep P prim s with
    | .go s => aRun P prim n s
    | r => r
end Go.Proofs.YtklanoppbbaolaaGreat
