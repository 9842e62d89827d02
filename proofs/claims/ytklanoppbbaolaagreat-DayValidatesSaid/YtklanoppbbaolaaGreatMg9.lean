/- Texts in one: CtT, CtV. -/
import Derived.Test.YtklanoppbbaolaaGreatMg3
import Derived.Test.YtklanoppbbaolaaGreatMg5
import Derived.Test.YtklanoppbbaolaaGreatMg8
/- The tokens of a text without '/', and the readers' steps: plain. No program is named here. -/
namespace Go.Proofs.YtklanoppbbaolaaGreat
set_option linter.unusedSimpArgs false
set_option linter.unusedVariables false

abbrev Bytes := List UInt8
def isSep (c : UInt8) : Bool := c == 32 || c == 10
def isLow (c : UInt8) : Bool := decide (97 ≤ c.toNat) && decide (c.toNat ≤ 122)
def isNum (c : UInt8) : Bool := isDig c || c == 45 || c == 47
def isRun (c : UInt8) : Bool := isLow c || isNum c
/-- The first place at or after i whose byte is not of the class. -/
def endF (p : UInt8 → Bool) (s : Bytes) (i : Nat) : Nat := i + ((s.drop i).takeWhile p).length
theorem endF_stop {p : UInt8 → Bool} {s : Bytes} {i : Nat} (h : s.length ≤ i) : endF p s i = i := by
  unfold endF; rw [List.drop_eq_nil_of_le h]; rfl
theorem endF_no {p : UInt8 → Bool} {s : Bytes} {i : Nat} (h : i < s.length) (hp : p (s.getD i 0) = false) : endF p s i = i := by
  have hg : s.getD i 0 = s[i] := by simp [h]
  unfold endF
  rw [List.drop_eq_getElem_cons h, List.takeWhile_cons, ← hg, hp]
  rfl
theorem endF_yes {p : UInt8 → Bool} {s : Bytes} {i : Nat} (h : i < s.length) (hp : p (s.getD i 0) = true) : endF p s i = endF p s (i + 1) := by
  have hg : s.getD i 0 = s[i] := by simp [h]
  unfold endF
  rw [List.drop_eq_getElem_cons h, List.takeWhile_cons, ← hg, hp]
  simp
  omega
theorem endF_le (p : UInt8 → Bool) (s : Bytes) (i : Nat) (h : i ≤ s.length) : i ≤ endF p s i ∧ endF p s i ≤ s.length := by
  unfold endF
  have h1 : ((s.drop i).takeWhile p).length ≤ (s.drop i).length := (List.takeWhile_sublist p).length_le
  rw [List.length_drop] at h1
  omega
inductive Tk where
  | op
  | cl
  | wd (t : Bytes)
  | nm (n : Int)
def tkKind : Tk → Int
  | .op => 1
  | .cl => 2
  | .wd _ => 3
  | .nm _ => 4
/-- Is the numeral negative; its digits. -/
def isNeg (r : Bytes) : Bool := r.head? == some 45
def magn (r : Bytes) : Bytes := if isNeg r then r.drop 1 else r
/-- A numeral without '/': the error, the value. -/
def pz (r : Bytes) : Int × Int :=
  if 1000 < (magn r).length then (5, 0)
  else if !isDec (magn r) || (isNeg r && magn r == [48]) then (3, 0)
  else (0, if isNeg r then -(dval (magn r) : Int) else dval (magn r))
/-- The run of bytes from p on. -/
def runAt (s : Bytes) (p : Nat) : Bytes := (s.drop p).take (endF isRun s p - p)
def allB (p : UInt8 → Bool) (r : Bytes) : Bool := !r.isEmpty && r.all p
/-- The next token: the error, the token, the place behind it; the error -1 says: a run with '/'. -/
def nextT (s : Bytes) (i : Int) : Int × Tk × Int :=
  if 65536 < s.length then (5, .op, 0)
  else if i < 0 ∨ (s.length : Int) < i then (1, .op, 0)
  else
    if endF isSep s i.toNat = s.length then (8, .op, 0)
    else if s.getD (endF isSep s i.toNat) 0 = 40 then (0, .op, (endF isSep s i.toNat : Int) + 1)
    else if s.getD (endF isSep s i.toNat) 0 = 41 then (0, .cl, (endF isSep s i.toNat : Int) + 1)
    else if allB isLow (runAt s (endF isSep s i.toNat)) then (0, .wd (runAt s (endF isSep s i.toNat)), (endF isRun s (endF isSep s i.toNat) : Int))
    else if !allB isNum (runAt s (endF isSep s i.toNat)) then (3, .op, 0)
    else if (runAt s (endF isSep s i.toNat)).any (· == 47) then (-1, .op, 0)
    else if (pz (runAt s (endF isSep s i.toNat))).1 ≠ 0 then ((pz (runAt s (endF isSep s i.toNat))).1, .op, 0)
    else (0, .nm (pz (runAt s (endF isSep s i.toNat))).2, (endF isRun s (endF isSep s i.toNat) : Int))
def expT (s : Bytes) (i : Int) (k : Int) : Int × Tk × Int :=
  if (nextT s i).1 = 8 then (4, .op, 0)
  else if (nextT s i).1 ≠ 0 then ((nextT s i).1, .op, 0)
  else if tkKind (nextT s i).2.1 ≠ k then (3, .op, 0)
  else nextT s i
def tkText : Tk → Bytes
  | .wd t => t
  | _ => []
def tkNum : Tk → Int
  | .nm n => n
  | _ => 0
/-- ExpectWord: the error, the place behind. -/
def expW (s : Bytes) (i : Int) (w : Bytes) : Int × Int :=
  if (expT s i 3).1 ≠ 0 then ((expT s i 3).1, 0) else if tkText (expT s i 3).2.1 ≠ w then (3, 0) else (0, (expT s i 3).2.2)
def i64In (n : Int) : Bool := decide (-9223372036854775808 ≤ n) && decide (n ≤ 9223372036854775807)
/-- ExpectInt: the error, the number, the place behind. -/
def expI (s : Bytes) (i : Int) : Int × Int × Int :=
  if (expT s i 4).1 ≠ 0 then ((expT s i 4).1, 0, 0) else if !i64In (tkNum (expT s i 4).2.1) then (1, 0, 0) else (0, tkNum (expT s i 4).2.1, (expT s i 4).2.2)
def peekT (s : Bytes) (i : Int) (k : Int) : Bool := decide ((nextT s i).1 = 0) && decide (tkKind (nextT s i).2.1 = k)
/-- A reader: where it stands, and its error. -/
structure Rd where
  i : Int
  e : Int
def rMove (r : Rd) (e nx : Int) : Rd := if e = 0 then ⟨nx, 0⟩ else ⟨r.i, e⟩
def rTok (s : Bytes) (k : Int) (r : Rd) : Rd := if r.e ≠ 0 then r else rMove r (expT s r.i k).1 (expT s r.i k).2.2
def rWord (s : Bytes) (w : Bytes) (r : Rd) : Rd := if r.e ≠ 0 then r else rMove r (expW s r.i w).1 (expW s r.i w).2
def rInt (s : Bytes) (r : Rd) : Int × Rd := if r.e ≠ 0 then (0, r) else ((expI s r.i).2.1, rMove r (expI s r.i).1 (expI s r.i).2.2)
end Go.Proofs.YtklanoppbbaolaaGreat
/- Cases, their checks and their parsing: plain. No program is named here. -/
namespace Go.Proofs.YtklanoppbbaolaaGreat
set_option linter.unusedSimpArgs false
set_option linter.unusedVariables false

abbrev St := Int × Int
structure Bd where
  bus : Int
  steps : List St
structure Un where
  bus : Int
  min : Int
  steps : List St
  up : Int
  down : Int
  start : Int
  idle : Int
  spin : Int
  on : Int
structure Hr where
  bids : List Bd
  real : List Bd
  need : Int
abbrev Rt := Int × Int × Int
structure Nt where
  buses : Int
  lines : List Ln
structure Cs where
  net : Nt
  units : List Un
  hours : List Hr
  outs : List Og
  rights : List Rt
def bd0 : Bd := ⟨0, []⟩
def un0 : Un := ⟨0, 0, [], 0, 0, 0, 0, 0, 0⟩
def hr0 : Hr := ⟨[], [], 0⟩
def nt0 : Nt := ⟨0, []⟩
def cs0 : Cs := ⟨nt0, [], [], [], []⟩
/-- The first error. -/
def fstE {α : Type} (f : α → Int) : List α → Int
  | [] => 0
  | x :: l => if f x ≠ 0 then f x else fstE f l
def rises (p q : Int) : Bool := decide (p < q)
def falls (p q : Int) : Bool := decide (q < p)
def stOk (x : St) : Bool := decide (1 ≤ x.1) && decide (x.1 ≤ 1000000) && decide (-1000000 ≤ x.2) && decide (x.2 ≤ 1000000)
def stGo (f : Int → Int → Bool) : Option Int → List St → Int
  | _, [] => 0
  | pv, x :: l => if !stOk x then 1 else if pv.any (fun p => !f p x.2) then 3 else stGo f (some x.2) l
def stepsE (f : Int → Int → Bool) (l : List St) : Int := if l.length = 0 then 4 else if 3 < l.length then 5 else stGo f none l
def qtySum (l : List St) : Int := (l.map (·.1)).sum
def inB (b n : Int) : Bool := decide (0 ≤ b) && decide (b < n)
def bidE (n : Int) (b : Bd) : Int := if !inB b.bus n then 1 else stepsE falls b.steps
def unRest (u : Un) : Bool := decide (0 ≤ u.min) && decide (u.min ≤ qtySum u.steps) && decide (1 ≤ u.up) && decide (u.up ≤ 6) && decide (1 ≤ u.down) && decide (u.down ≤ 6) && decide (0 ≤ u.start) && decide (u.start ≤ 1000000000) && decide (0 ≤ u.idle) && decide (u.idle ≤ 1000000000) && decide (0 ≤ u.spin) && decide (u.spin ≤ 1000000) && decide (u.on ≠ 0) && decide (-6 ≤ u.on) && decide (u.on ≤ 6)
def unitE (n : Int) (u : Un) : Int := if !inB u.bus n then 1 else if stepsE rises u.steps ≠ 0 then stepsE rises u.steps else if unRest u then 0 else 1
def busNe (p : Bd × Bd) : Int := if p.1.bus ≠ p.2.bus then 3 else 0
def realE (p : Bd × Bd) : Int := if p.1.bus ≠ p.2.bus then 3 else stepsE falls p.1.steps
def hourE (n : Int) (f h : Hr) : Int :=
  if 6 < h.bids.length then 5
  else if fstE (bidE n) h.bids ≠ 0 then fstE (bidE n) h.bids
  else if h.real.length ≠ h.bids.length then 3
  else if fstE realE (h.real.zip h.bids) ≠ 0 then fstE realE (h.real.zip h.bids)
  else if h.need < 0 ∨ 1000000 < h.need then 1
  else if h.bids.length ≠ f.bids.length then 3
  else fstE busNe (h.bids.zip f.bids)
def rtOk (n : Int) (r : Rt) : Bool := inB r.1 n && inB r.2.1 n && decide (0 ≤ r.2.2) && decide (r.2.2 ≤ 1000000)
def rightsE (n : Int) (l : List Rt) : Int := if 8 < l.length then 5 else if l.all (rtOk n) then 0 else 1
def ogWrong (lines units hours : Int) (l : List Og) : Int := (ogChk lines units hours l).2
def dayE (c : Cs) : Int :=
  if checkE c.net.buses c.net.lines ≠ 0 then checkE c.net.buses c.net.lines
  else if 5 < c.units.length then 5
  else if fstE (unitE c.net.buses) c.units ≠ 0 then fstE (unitE c.net.buses) c.units
  else if c.hours.length = 0 then 4
  else if 8 < c.hours.length then 5
  else if fstE (hourE c.net.buses (c.hours.getD 0 hr0)) c.hours ≠ 0 then fstE (hourE c.net.buses (c.hours.getD 0 hr0)) c.hours
  else if ogWrong c.net.lines.length c.units.length c.hours.length c.outs ≠ 0 then ogWrong c.net.lines.length c.units.length c.hours.length c.outs
  else rightsE c.net.buses c.rights
def ogValid (o : Og) : Bool := decide (0 ≤ o.2.1) && decide (o.2.1 < (if o.1 = 3 then 5 else 10)) && decide (0 ≤ o.2.2.1) && decide (o.2.2.1 ≤ o.2.2.2) && decide (o.2.2.2 < 8)
-- parsing
/-- An opening parenthesis and a word. -/
def rOpen (s : Bytes) (y : Bytes) (rd : Rd) : Rd := rWord s y (rTok s 1 rd)
def goOn (s : Bytes) (rd : Rd) : Bool := decide (rd.e = 0) && peekT s rd.i 1
def stepP (s : Bytes) (rd : Rd) : St × Rd :=
  (((rInt s (rTok s 1 rd)).1, (rInt s (rInt s (rTok s 1 rd)).2).1), rTok s 2 (rInt s (rInt s (rTok s 1 rd)).2).2)
def stepsP (s : Bytes) : Nat → Rd → List St × Rd
  | 0, rd => ([], rd)
  | n + 1, rd => if goOn s rd then (if (stepP s rd).2.e = 0 then ((stepP s rd).1 :: (stepsP s n (stepP s rd).2).1, (stepsP s n (stepP s rd).2).2) else stepsP s n (stepP s rd).2) else ([], rd)
/-- So many rounds are enough. -/
def fuel (s : Bytes) : Nat := s.length + 1
def bidR (s : Bytes) (i : Int) : Bd × Rd :=
  let r := rInt s (rWord s [98, 105, 100] (rTok s 1 ⟨i, 0⟩))
  let l := stepsP s (fuel s) r.2
  (⟨r.1, l.1⟩, rTok s 2 l.2)
/-- What a parser answers: the error, the value, the place behind it. -/
def fin {α : Type} (z : α) (chk : α → Int) (r : α × Rd) : Int × α × Int := if r.2.e ≠ 0 then (r.2.e, z, 0) else if chk r.1 ≠ 0 then (chk r.1, z, 0) else (0, r.1, r.2.i)
def bidP (s : Bytes) (i : Int) : Int × Bd × Int := fin bd0 (bidE 6) (bidR s i)
def unitR (s : Bytes) (i : Int) : Un × Rd :=
  let r1 := rInt s (rWord s [117, 110, 105, 116] (rTok s 1 ⟨i, 0⟩))
  let r2 := rInt s r1.2
  let r3 := rInt s r2.2
  let r4 := rInt s r3.2
  let r5 := rInt s r4.2
  let r6 := rInt s r5.2
  let r7 := rInt s r6.2
  let r8 := rInt s r7.2
  let l := stepsP s (fuel s) r8.2
  (⟨r1.1, r2.1, l.1, r3.1, r4.1, r5.1, r6.1, r7.1, r8.1⟩, rTok s 2 l.2)
def unitP (s : Bytes) (i : Int) : Int × Un × Int := fin un0 (unitE 6) (unitR s i)
def lineR (s : Bytes) (rd : Rd) : Ln × Rd :=
  let r1 := rInt s (rWord s [108, 105, 110, 101] (rTok s 1 rd))
  let r2 := rInt s r1.2
  let r3 := rInt s r2.2
  let r4 := rInt s r3.2
  ((r1.1, r2.1, r3.1, r4.1), rTok s 2 r4.2)
def linesP (s : Bytes) : Nat → Rd → List Ln × Rd
  | 0, rd => ([], rd)
  | n + 1, rd => if goOn s rd then ((lineR s rd).1 :: (linesP s n (lineR s rd).2).1, (linesP s n (lineR s rd).2).2) else ([], rd)
def netR (s : Bytes) (i : Int) : Nt × Rd :=
  let r := rInt s (rWord s [110, 101, 116] (rTok s 1 ⟨i, 0⟩))
  let l := linesP s (fuel s) r.2
  (⟨r.1, l.1⟩, rTok s 2 l.2)
def netP (s : Bytes) (i : Int) : Int × Nt × Int := fin nt0 (fun n => checkE n.buses n.lines) (netR s i)
/-- The kind of an outage by its word, or 0. -/
def kindOf (t : Bytes) : Int := if t = [112, 108, 97, 110] then 1 else if t = [108, 111, 115, 115] then 2 else if t = [116, 114, 105, 112] then 3 else 0
def kindR (s : Bytes) (rd : Rd) : Int × Rd :=
  if (rTok s 3 rd).e ≠ 0 then (0, rTok s 3 rd)
  else if kindOf (tkText (expT s rd.i 3).2.1) = 0 then (0, ⟨(rTok s 3 rd).i, 3⟩) else (kindOf (tkText (expT s rd.i 3).2.1), rTok s 3 rd)
def outR (s : Bytes) (i : Int) : Og × Rd :=
  let k := kindR s (rTok s 1 ⟨i, 0⟩)
  let r1 := rInt s k.2
  let r2 := rInt s r1.2
  let r3 := rInt s r2.2
  ((k.1, r1.1, r2.1, r3.1), rTok s 2 r3.2)
def outP (s : Bytes) (i : Int) : Int × Og × Int := fin (0, 0, 0, 0) (fun o => if ogValid o then 0 else 1) (outR s i)
/-- One element. -/
def oneP {α : Type} (z : α) (p : Int → Int × α × Int) (rd : Rd) : α × Rd := if rd.e ≠ 0 then (z, rd) else ((p rd.i).2.1, rMove rd (p rd.i).1 (p rd.i).2.2)
def manyP {α : Type} (s : Bytes) (z : α) (p : Int → Int × α × Int) : Nat → Rd → List α × Rd
  | 0, rd => ([], rd)
  | n + 1, rd => if goOn s rd then ((oneP z p rd).1 :: (manyP s z p n (oneP z p rd).2).1, (manyP s z p n (oneP z p rd).2).2) else ([], rd)
def listP {α : Type} (s : Bytes) (y : Bytes) (z : α) (p : Int → Int × α × Int) (rd : Rd) : List α × Rd :=
  ((manyP s z p (fuel s) (rOpen s y rd)).1, rTok s 2 (manyP s z p (fuel s) (rOpen s y rd)).2)
def hourR (s : Bytes) (i : Int) : Hr × Rd :=
  let r := rInt s (rOpen s [104, 111, 117, 114] ⟨i, 0⟩)
  let b := listP s [98, 105, 100, 115] bd0 (bidP s) r.2
  let q := listP s [114, 101, 97, 108] bd0 (bidP s) b.2
  (⟨b.1, q.1, r.1⟩, rTok s 2 q.2)
def hourP (s : Bytes) (i : Int) : Int × Hr × Int := fin hr0 (fun _ => 0) (hourR s i)
def rightR (s : Bytes) (i : Int) : Rt × Rd :=
  let r1 := rInt s (rOpen s [114, 105, 103, 104, 116] ⟨i, 0⟩)
  let r2 := rInt s r1.2
  let r3 := rInt s r2.2
  ((r1.1, r2.1, r3.1), rTok s 2 r3.2)
def rightP (s : Bytes) (i : Int) : Int × Rt × Int := fin (0, 0, 0) (fun _ => 0) (rightR s i)
def caseR (s : Bytes) (i : Int) : Cs × Rd :=
  let n := oneP nt0 (netP s) (rOpen s [99, 97, 115, 101] ⟨i, 0⟩)
  let u := listP s [117, 110, 105, 116, 115] un0 (unitP s) n.2
  let h := listP s [104, 111, 117, 114, 115] hr0 (hourP s) u.2
  let o := listP s [111, 117, 116, 97, 103, 101, 115] (0, 0, 0, 0) (outP s) h.2
  let r := listP s [114, 105, 103, 104, 116, 115] (0, 0, 0) (rightP s) o.2
  (⟨n.1, u.1, h.1, o.1, r.1⟩, rTok s 2 r.2)
def caseP (s : Bytes) (i : Int) : Int × Cs × Int := fin cs0 dayE (caseR s i)
def parseP (s : Bytes) : Int × Cs := if (caseP s 0).1 ≠ 0 then ((caseP s 0).1, cs0) else if (nextT s (caseP s 0).2.2).1 ≠ 8 then (6, cs0) else (0, (caseP s 0).2.1)
def smallT : Bytes := [40, 99, 97, 115, 101, 32, 40, 110, 101, 116, 32, 49, 41, 32, 40, 117, 110, 105, 116, 115, 41, 32, 40, 104, 111, 117, 114, 115, 32, 40, 104, 111, 117, 114, 32, 48, 32, 40, 98, 105, 100, 115, 41, 32, 40, 114, 101, 97, 108, 41, 41, 41, 32, 40, 111, 117, 116, 97, 103, 101, 115, 41, 32, 40, 114, 105, 103, 104, 116, 115, 41, 41]
theorem small_parses : (parseP smallT).1 = 0 := by decide +kernel
theorem small_is : (parseP smallT).2.net.buses = 1 ∧ (parseP smallT).2.hours.length = 1 := by decide +kernel
theorem short_text : (parseP [40, 99, 97, 115, 101]).1 = 4 := by decide +kernel
theorem more_text : (parseP (smallT ++ [32, 120])).1 = 6 := by decide +kernel
theorem rights_text : (parseP [40, 99, 97, 115, 101, 32, 40, 110, 101, 116, 32, 49, 41, 32, 40, 117, 110, 105, 116, 115, 41, 32, 40, 104, 111, 117, 114, 115, 32, 40, 104, 111, 117, 114, 32, 48, 32, 40, 98, 105, 100, 115, 41, 32, 40, 114, 101, 97, 108, 41, 41, 41, 32, 40, 111, 117, 116, 97, 103, 101, 115, 41, 32, 40, 114, 105, 103, 104, 116, 115, 32, 40, 114, 105, 103, 104, 116, 32, 48, 32, 49, 32, 53, 41, 41, 41]).1 = 1 := by decide +kernel
theorem hours_text : (parseP [40, 99, 97, 115, 101, 32, 40, 110, 101, 116, 32, 49, 41, 32, 40, 117, 110, 105, 116, 115, 41, 32, 40, 104, 111, 117, 114, 115, 41, 32, 40, 111, 117, 116, 97, 103, 101, 115, 41, 32, 40, 114, 105, 103, 104, 116, 115, 41, 41]).1 = 4 := by decide +kernel
end Go.Proofs.YtklanoppbbaolaaGreat
