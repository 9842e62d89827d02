/- Texts in one: CkC, CtV. -/
import Derived.Test.YtkfhpefmmhljmaaGreatDoorF7
import Derived.Test.YtkfhpefmmhljmaaGreatDoorF8
import Derived.Test.YtkfhpefmmhljmaaGreatDoorF5
set_option linter.unusedVariables false
set_option linter.unusedSimpArgs false
set_option maxHeartbeats 16000000
namespace Go.Proofs.YtkfhpefmmhljmaaGreatDoor
open Go.RowKit
def ogWr (lines units hours : Int) (o : Og) : Int :=
 if o.1 ≠ 1 ∧ o.1 ≠ 2 ∧ o.1 ≠ 3 then 12
 else if o.2.1 < 0 ∨ (if o.1 = 3 then units else lines) ≤ o.2.1 ∨ o.2.2.1 < 0 ∨ o.2.2.2 < o.2.2.1 ∨ hours ≤ o.2.2.2 then 1 else 0
def chkG (f : Og → Int) : List Og → Nat → Int × Int
 | [], _ => (0, 0)
 | o :: l, i => if f o = 0 then chkG f l (i + 1) else (i, f o)
def ogChk (lines units hours : Int) (l : List Og) : Int × Int := if 16 < l.length then (0, 5) else chkG (ogWr lines units hours) l 0
theorem nR {f : Og → Int} {l : List Og} {k : Nat} (hk : k < l.length) (h : f (l.getD k (0, 0, 0, 0)) = 0) : chkG f (l.drop k) k = chkG f (l.drop (k + 1)) (k + 1) := by
 rw [List.drop_eq_getElem_cons hk, chkG, if_pos (by rw [← zM l k (0, 0, 0, 0) hk]; exact h)]
theorem pK {f : Og → Int} {l : List Og} {k : Nat} (hk : k < l.length) (h : f (l.getD k (0, 0, 0, 0)) ≠ 0) : chkG f (l.drop k) k = ((k : Int), f (l.getD k (0, 0, 0, 0))) := by
 rw [List.drop_eq_getElem_cons hk, chkG, if_neg (by rw [← zM l k (0, 0, 0, 0) hk]; exact h), zM l k (0, 0, 0, 0) hk]
def ChkE (w : World) (r : Int × Int) (e : Ending) (w' : World) : Prop := e = .returned (.tuple #[.int .i64 r.1, .int .i64 r.2]) ∧ Below w w w'
theorem ChkE.of {w w' : World} {i er : Int} {r : Int × Int} (h : r = (i, er)) (hb : Below w w w') : ChkE w r (.returned (.tuple #[.int .i64 i, .int .i64 er])) w' := by
 subst h; exact ⟨rfl, hb⟩
set_option maxRecDepth 100000 in
theorem aQ (lines units hours : Int) (A : Option Addr) (c : Nat) (l : List Og) (w : World) (hl : OgsR w w A l) (hm : l.length ≤ 1000000) :
  Calls Tryz.prog 39 #[.slice A l.length c, .int .i64 lines, .int .i64 units, .int .i64 hours] w (ChkE w (ogChk lines units hours l)) := by
 have HL := η hl;clear hl;by_cases h16 : 16 < l.length
 ·rw [ogChk, if_pos h16];have b2 : decide ((16 : Int) < l.length) = true := by simp; omega
  go_enter Tryz.func39, Tryz.ntmps39;go_wp2_with fail;go_ret2;exact ChkE.of rfl (Below.refl _ _)
 rw [ogChk, if_neg h16];have b2 : decide ((16 : Int) < l.length) = false := by simp; omega
 obtain ⟨f, hf⟩ : ∃ f, ogWr lines units hours = f := ⟨_, rfl⟩;rw [hf];have HF := η hf;clear hf;go_enter Tryz.func39, Tryz.ntmps39;go_wp2_with fail;go_loopg [8, 9, 10, 11, 12, 18] l.length (fun g s8 s9 s10 s11 s12 i wr => ∃ k : Nat, k + g = l.length ∧ i = .int .i64 k ∧ s8 = .int .i64 0 ∧ s9 = .int .i64 0 ∧ chkG f l 0 = chkG f (l.drop k) k ∧ Below w w wr)
 case atStart => exact ⟨0, by omega, rfl, rfl, rfl, by rw [List.drop_zero], Below.refl _ _⟩
 case round =>
  obtain ⟨k, hkg, rfl, rfl, rfl, hd, hb⟩ := hrel;have HD := η hd;have HB := η hb;have hsz := hb.size;clear hd hb;cases gk with
  | zero =>
   obtain rfl : k = l.length := by omega
   clear hkg;go_wp2_with fail;go_ret2;exact ChkE.of (by rw [HD.out, List.drop_length, chkG]) HB.out
  | succ g =>
   have hk : k < l.length := by omega
   have HG := η hkg;clear hkg;obtain ⟨b, off, rfl, hbl, hc⟩ := HL.out (by omega);obtain ⟨e0, e1, e2, e3⟩ := hc k hk;have f0 := (HB.out.cell (p := ⟨b, off + k * 4, none⟩) hbl).trans e0;have f1 := (HB.out.cell (p := ⟨b, off + k * 4 + 1, none⟩) hbl).trans e1;have f2 := (HB.out.cell (p := ⟨b, off + k * 4 + 2, none⟩) hbl).trans e2;have f3 := (HB.out.cell (p := ⟨b, off + k * 4 + 3, none⟩) hbl).trans e3;clear e0 e1 e2 e3 hc;have hit : f (l.getD k (0, 0, 0, 0)) = 0 → chkG f l 0 = chkG f (l.drop (k + 1)) (k + 1) := fun h => HD.out.trans (nR hk h)
   have miss : ∀ er : Int, er ≠ 0 → f (l.getD k (0, 0, 0, 0)) = er → chkG f l 0 = ((k : Int), er) := fun er h0 h => by rw [HD.out, pK hk (by rw [h]; exact h0), h]
   have HIT := η hit;have MISS := η miss;clear hit miss;obtain ⟨o, hgl⟩ : ∃ o, l.getD k (0, 0, 0, 0) = o := ⟨_, rfl⟩;rw [hgl] at f0 f1 f2 f3 HIT MISS;clear hgl;obtain ⟨ok, ox, of', ot⟩ := o;simp only at f0 f1 f2 f3;have hw : f (ok, ox, of', ot) = if ok ≠ 1 ∧ ok ≠ 2 ∧ ok ≠ 3 then 12 else if ox < 0 ∨ (if ok = 3 then units else lines) ≤ ox ∨ of' < 0 ∨ ot < of' ∨ hours ≤ ot then 1 else 0 := by rw [← HF.out]; rfl
   have HW := η hw;clear hw;by_cases hk1 : ok = 1
   ·have t1 : (ok == 1) = true := by rw [beq_iff_eq]; exact hk1
    have HK := η (show ok = 1 from hk1);clear hk1;by_cases q0 : ox < 0
    ·have p0 : decide (ox < 0) = true := κt q0;have hE : f (ok, ox, of', ot) = 1 := by
      have := HK.out;rw [HW.out, if_neg (by omega), this, if_pos (by simp; omega)]
     have HE := η hE;clear hE;go_wp2_with fail;go_ret2;exact ChkE.of (MISS.out 1 (by decide) HE.out) (HB.out.alloc (by omega) _)
    have p0 : decide (ox < 0) = false := κf q0;by_cases q1 : lines ≤ ox
    ·have p1 : decide (lines ≤ ox) = true := κt q1;have hE : f (ok, ox, of', ot) = 1 := by
      have := HK.out;rw [HW.out, if_neg (by omega), this, if_pos (by simp; omega)]
     have HE := η hE;clear hE;go_wp2_with fail;go_ret2;exact ChkE.of (MISS.out 1 (by decide) HE.out) (HB.out.alloc (by omega) _)
    have p1 : decide (lines ≤ ox) = false := κf q1;by_cases q2 : of' < 0
    ·have p2 : decide (of' < 0) = true := κt q2;have hE : f (ok, ox, of', ot) = 1 := by
      have := HK.out;rw [HW.out, if_neg (by omega), this, if_pos (by simp; omega)]
     have HE := η hE;clear hE;go_wp2_with fail;go_ret2;exact ChkE.of (MISS.out 1 (by decide) HE.out) (HB.out.alloc (by omega) _)
    have p2 : decide (of' < 0) = false := κf q2;by_cases q3 : ot < of'
    ·have p3 : decide (ot < of') = true := κt q3;have hE : f (ok, ox, of', ot) = 1 := by
      have := HK.out;rw [HW.out, if_neg (by omega), this, if_pos (by simp; omega)]
     have HE := η hE;clear hE;go_wp2_with fail;go_ret2;exact ChkE.of (MISS.out 1 (by decide) HE.out) (HB.out.alloc (by omega) _)
    have p3 : decide (ot < of') = false := κf q3;by_cases q4 : hours ≤ ot
    ·have p4 : decide (hours ≤ ot) = true := κt q4;have hE : f (ok, ox, of', ot) = 1 := by
      have := HK.out;rw [HW.out, if_neg (by omega), this, if_pos (by simp; omega)]
     have HE := η hE;clear hE;go_wp2_with fail;go_ret2;exact ChkE.of (MISS.out 1 (by decide) HE.out) (HB.out.alloc (by omega) _)
    have p4 : decide (hours ≤ ot) = false := κf q4;have hE : f (ok, ox, of', ot) = 0 := by
     have := HK.out;rw [HW.out, if_neg (by omega), this, if_neg (by simp; omega)]
    have HE := η hE;clear hE;go_wp2_with fail;go_roundg g
    case measure => omega
    case rel => exact ⟨k + 1, by have := HG.out; omega, by go_num, rfl, rfl, HIT.out HE.out, HB.out.alloc (by omega) _⟩
   have t1 : (ok == 1) = false := by rw [beq_eq_false_iff_ne]; exact hk1
   by_cases hk2 : ok = 2
   ·have t2 : (ok == 2) = true := by rw [beq_iff_eq]; exact hk2
    have HK := η (show ok = 2 from hk2);clear hk2;by_cases q0 : ox < 0
    ·have p0 : decide (ox < 0) = true := κt q0;have hE : f (ok, ox, of', ot) = 1 := by
      have := HK.out;rw [HW.out, if_neg (by omega), this, if_pos (by simp; omega)]
     have HE := η hE;clear hE;go_wp2_with fail;go_ret2;exact ChkE.of (MISS.out 1 (by decide) HE.out) (HB.out.alloc (by omega) _)
    have p0 : decide (ox < 0) = false := κf q0;by_cases q1 : lines ≤ ox
    ·have p1 : decide (lines ≤ ox) = true := κt q1;have hE : f (ok, ox, of', ot) = 1 := by
      have := HK.out;rw [HW.out, if_neg (by omega), this, if_pos (by simp; omega)]
     have HE := η hE;clear hE;go_wp2_with fail;go_ret2;exact ChkE.of (MISS.out 1 (by decide) HE.out) (HB.out.alloc (by omega) _)
    have p1 : decide (lines ≤ ox) = false := κf q1;by_cases q2 : of' < 0
    ·have p2 : decide (of' < 0) = true := κt q2;have hE : f (ok, ox, of', ot) = 1 := by
      have := HK.out;rw [HW.out, if_neg (by omega), this, if_pos (by simp; omega)]
     have HE := η hE;clear hE;go_wp2_with fail;go_ret2;exact ChkE.of (MISS.out 1 (by decide) HE.out) (HB.out.alloc (by omega) _)
    have p2 : decide (of' < 0) = false := κf q2;by_cases q3 : ot < of'
    ·have p3 : decide (ot < of') = true := κt q3;have hE : f (ok, ox, of', ot) = 1 := by
      have := HK.out;rw [HW.out, if_neg (by omega), this, if_pos (by simp; omega)]
     have HE := η hE;clear hE;go_wp2_with fail;go_ret2;exact ChkE.of (MISS.out 1 (by decide) HE.out) (HB.out.alloc (by omega) _)
    have p3 : decide (ot < of') = false := κf q3;by_cases q4 : hours ≤ ot
    ·have p4 : decide (hours ≤ ot) = true := κt q4;have hE : f (ok, ox, of', ot) = 1 := by
      have := HK.out;rw [HW.out, if_neg (by omega), this, if_pos (by simp; omega)]
     have HE := η hE;clear hE;go_wp2_with fail;go_ret2;exact ChkE.of (MISS.out 1 (by decide) HE.out) (HB.out.alloc (by omega) _)
    have p4 : decide (hours ≤ ot) = false := κf q4;have hE : f (ok, ox, of', ot) = 0 := by
     have := HK.out;rw [HW.out, if_neg (by omega), this, if_neg (by simp; omega)]
    have HE := η hE;clear hE;go_wp2_with fail;go_roundg g
    case measure => omega
    case rel => exact ⟨k + 1, by have := HG.out; omega, by go_num, rfl, rfl, HIT.out HE.out, HB.out.alloc (by omega) _⟩
   have t2 : (ok == 2) = false := by rw [beq_eq_false_iff_ne]; exact hk2
   by_cases hk3 : ok = 3
   ·have t3 : (ok == 3) = true := by rw [beq_iff_eq]; exact hk3
    have HK := η (show ok = 3 from hk3);clear hk3;by_cases q0 : ox < 0
    ·have p0 : decide (ox < 0) = true := κt q0;have hE : f (ok, ox, of', ot) = 1 := by
      have := HK.out;rw [HW.out, if_neg (by omega), this, if_pos (by simp; omega)]
     have HE := η hE;clear hE;go_wp2_with fail;go_ret2;exact ChkE.of (MISS.out 1 (by decide) HE.out) (HB.out.alloc (by omega) _)
    have p0 : decide (ox < 0) = false := κf q0;by_cases q1 : units ≤ ox
    ·have p1 : decide (units ≤ ox) = true := κt q1;have hE : f (ok, ox, of', ot) = 1 := by
      have := HK.out;rw [HW.out, if_neg (by omega), this, if_pos (by simp; omega)]
     have HE := η hE;clear hE;go_wp2_with fail;go_ret2;exact ChkE.of (MISS.out 1 (by decide) HE.out) (HB.out.alloc (by omega) _)
    have p1 : decide (units ≤ ox) = false := κf q1;by_cases q2 : of' < 0
    ·have p2 : decide (of' < 0) = true := κt q2;have hE : f (ok, ox, of', ot) = 1 := by
      have := HK.out;rw [HW.out, if_neg (by omega), this, if_pos (by simp; omega)]
     have HE := η hE;clear hE;go_wp2_with fail;go_ret2;exact ChkE.of (MISS.out 1 (by decide) HE.out) (HB.out.alloc (by omega) _)
    have p2 : decide (of' < 0) = false := κf q2;by_cases q3 : ot < of'
    ·have p3 : decide (ot < of') = true := κt q3;have hE : f (ok, ox, of', ot) = 1 := by
      have := HK.out;rw [HW.out, if_neg (by omega), this, if_pos (by simp; omega)]
     have HE := η hE;clear hE;go_wp2_with fail;go_ret2;exact ChkE.of (MISS.out 1 (by decide) HE.out) (HB.out.alloc (by omega) _)
    have p3 : decide (ot < of') = false := κf q3;by_cases q4 : hours ≤ ot
    ·have p4 : decide (hours ≤ ot) = true := κt q4;have hE : f (ok, ox, of', ot) = 1 := by
      have := HK.out;rw [HW.out, if_neg (by omega), this, if_pos (by simp; omega)]
     have HE := η hE;clear hE;go_wp2_with fail;go_ret2;exact ChkE.of (MISS.out 1 (by decide) HE.out) (HB.out.alloc (by omega) _)
    have p4 : decide (hours ≤ ot) = false := κf q4;have hE : f (ok, ox, of', ot) = 0 := by
     have := HK.out;rw [HW.out, if_neg (by omega), this, if_neg (by simp; omega)]
    have HE := η hE;clear hE;go_wp2_with fail;go_roundg g
    case measure => omega
    case rel => exact ⟨k + 1, by have := HG.out; omega, by go_num, rfl, rfl, HIT.out HE.out, HB.out.alloc (by omega) _⟩
   have t3 : (ok == 3) = false := by rw [beq_eq_false_iff_ne]; exact hk3
   have hE : f (ok, ox, of', ot) = 12 := by rw [HW.out, if_pos ⟨hk1, hk2, hk3⟩]
   have HE := η hE;clear hE;go_wp2_with fail;go_ret2;exact ChkE.of (MISS.out 12 (by decide) HE.out) (HB.out.alloc (by omega) _)
end Go.Proofs.YtkfhpefmmhljmaaGreatDoor
namespace Go.Proofs.YtkfhpefmmhljmaaGreatDoor
abbrev St := Int × Int
structure Bd where
 bus : Int
 steps : List St
structure Un where
 bus : Int
 min : Int
 steps : List St
 up : Int
 down : Int
 start : Int
 idle : Int
 spin : Int
 on : Int
structure Hr where
 bids : List Bd
 real : List Bd
 need : Int
abbrev Rt := Int × Int × Int
structure Nt where
 buses : Int
 lines : List Ln
structure Cs where
 net : Nt
 units : List Un
 hours : List Hr
 outs : List Og
 rights : List Rt
def bd0 : Bd := ⟨0, []⟩
def un0 : Un := ⟨0, 0, [], 0, 0, 0, 0, 0, 0⟩
def hr0 : Hr := ⟨[], [], 0⟩
def nt0 : Nt := ⟨0, []⟩
def cs0 : Cs := ⟨nt0, [], [], [], []⟩
def fstE {α : Type} (f : α → Int) : List α → Int
 | [] => 0
 | x :: l => if f x ≠ 0 then f x else fstE f l
def rises (p q : Int) : Bool := decide (p < q)
def falls (p q : Int) : Bool := decide (q < p)
def stOk (x : St) : Bool := decide (1 ≤ x.1) && decide (x.1 ≤ 1000000) && decide (-1000000 ≤ x.2) && decide (x.2 ≤ 1000000)
def stGo (f : Int → Int → Bool) : Option Int → List St → Int
 | _, [] => 0
 | pv, x :: l => if !stOk x then 1 else if pv.any (fun p => !f p x.2) then 3 else stGo f (some x.2) l
def zP (f : Int → Int → Bool) (l : List St) : Int := if l.length = 0 then 4 else if 3 < l.length then 5 else stGo f none l
def qC (l : List St) : Int := (l.map (·.1)).sum
def inB (b n : Int) : Bool := decide (0 ≤ b) && decide (b < n)
def bidE (n : Int) (b : Bd) : Int := if !inB b.bus n then 1 else zP falls b.steps
def vB (u : Un) : Bool := decide (0 ≤ u.min) && decide (u.min ≤ qC u.steps) && decide (1 ≤ u.up) && decide (u.up ≤ 6) && decide (1 ≤ u.down) && decide (u.down ≤ 6) && decide (0 ≤ u.start) && decide (u.start ≤ 1000000000) && decide (0 ≤ u.idle) && decide (u.idle ≤ 1000000000) && decide (0 ≤ u.spin) && decide (u.spin ≤ 1000000) && decide (u.on ≠ 0) && decide (-6 ≤ u.on) && decide (u.on ≤ 6)
def unitE (n : Int) (u : Un) : Int := if !inB u.bus n then 1 else if zP rises u.steps ≠ 0 then zP rises u.steps else if vB u then 0 else 1
def busNe (p : Bd × Bd) : Int := if p.1.bus ≠ p.2.bus then 3 else 0
def realE (p : Bd × Bd) : Int := if p.1.bus ≠ p.2.bus then 3 else zP falls p.1.steps
def hourE (n : Int) (f h : Hr) : Int :=
 if 6 < h.bids.length then 5
 else if fstE (bidE n) h.bids ≠ 0 then fstE (bidE n) h.bids
 else if h.real.length ≠ h.bids.length then 3
 else if fstE realE (h.real.zip h.bids) ≠ 0 then fstE realE (h.real.zip h.bids)
 else if h.need < 0 ∨ 1000000 < h.need then 1
 else if h.bids.length ≠ f.bids.length then 3
 else fstE busNe (h.bids.zip f.bids)
def rtOk (n : Int) (r : Rt) : Bool := inB r.1 n && inB r.2.1 n && decide (0 ≤ r.2.2) && decide (r.2.2 ≤ 1000000)
def jF (n : Int) (l : List Rt) : Int := if 8 < l.length then 5 else if l.all (rtOk n) then 0 else 1
def qV (lines units hours : Int) (l : List Og) : Int := (ogChk lines units hours l).2
def dayE (c : Cs) : Int :=
 if zX c.net.buses c.net.lines ≠ 0 then zX c.net.buses c.net.lines
 else if 5 < c.units.length then 5
 else if fstE (unitE c.net.buses) c.units ≠ 0 then fstE (unitE c.net.buses) c.units
 else if c.hours.length = 0 then 4
 else if 8 < c.hours.length then 5
 else if fstE (hourE c.net.buses (c.hours.getD 0 hr0)) c.hours ≠ 0 then fstE (hourE c.net.buses (c.hours.getD 0 hr0)) c.hours
 else if qV c.net.lines.length c.units.length c.hours.length c.outs ≠ 0 then qV c.net.lines.length c.units.length c.hours.length c.outs
 else jF c.net.buses c.rights
def qG (o : Og) : Bool := decide (0 ≤ o.2.1) && decide (o.2.1 < (if o.1 = 3 then 5 else 10)) && decide (0 ≤ o.2.2.1) && decide (o.2.2.1 ≤ o.2.2.2) && decide (o.2.2.2 < 8)
def rOpen (s : Bytes) (y : Bytes) (rd : Rd) : Rd := rWord s y (rTok s 1 rd)
def goOn (s : Bytes) (rd : Rd) : Bool := decide (rd.e = 0) && peekT s rd.i 1
def stepP (s : Bytes) (rd : Rd) : St × Rd :=
 (((rInt s (rTok s 1 rd)).1, (rInt s (rInt s (rTok s 1 rd)).2).1), rTok s 2 (rInt s (rInt s (rTok s 1 rd)).2).2)
def qF (s : Bytes) : Nat → Rd → List St × Rd
 | 0, rd => ([], rd)
 | n + 1, rd => if goOn s rd then (if (stepP s rd).2.e = 0 then ((stepP s rd).1 :: (qF s n (stepP s rd).2).1, (qF s n (stepP s rd).2).2) else qF s n (stepP s rd).2) else ([], rd)
def fuel (s : Bytes) : Nat := s.length + 1
def bidR (s : Bytes) (i : Int) : Bd × Rd :=
 let r := rInt s (rWord s [98, 105, 100] (rTok s 1 ⟨i, 0⟩))
 let l := qF s (fuel s) r.2
 (⟨r.1, l.1⟩, rTok s 2 l.2)
def fin {α : Type} (z : α) (chk : α → Int) (r : α × Rd) : Int × α × Int := if r.2.e ≠ 0 then (r.2.e, z, 0) else if chk r.1 ≠ 0 then (chk r.1, z, 0) else (0, r.1, r.2.i)
def bidP (s : Bytes) (i : Int) : Int × Bd × Int := fin bd0 (bidE 6) (bidR s i)
def unitR (s : Bytes) (i : Int) : Un × Rd :=
 let r1 := rInt s (rWord s [117, 110, 105, 116] (rTok s 1 ⟨i, 0⟩))
 let r2 := rInt s r1.2
 let r3 := rInt s r2.2
 let r4 := rInt s r3.2
 let r5 := rInt s r4.2
 let r6 := rInt s r5.2
 let r7 := rInt s r6.2
 let r8 := rInt s r7.2
 let l := qF s (fuel s) r8.2
 (⟨r1.1, r2.1, l.1, r3.1, r4.1, r5.1, r6.1, r7.1, r8.1⟩, rTok s 2 l.2)
def unitP (s : Bytes) (i : Int) : Int × Un × Int := fin un0 (unitE 6) (unitR s i)
def lineR (s : Bytes) (rd : Rd) : Ln × Rd :=
 let r1 := rInt s (rWord s [108, 105, 110, 101] (rTok s 1 rd))
 let r2 := rInt s r1.2
 let r3 := rInt s r2.2
 let r4 := rInt s r3.2
 ((r1.1, r2.1, r3.1, r4.1), rTok s 2 r4.2)
def jT (s : Bytes) : Nat → Rd → List Ln × Rd
 | 0, rd => ([], rd)
 | n + 1, rd => if goOn s rd then ((lineR s rd).1 :: (jT s n (lineR s rd).2).1, (jT s n (lineR s rd).2).2) else ([], rd)
def netR (s : Bytes) (i : Int) : Nt × Rd :=
 let r := rInt s (rWord s [110, 101, 116] (rTok s 1 ⟨i, 0⟩))
 let l := jT s (fuel s) r.2
 (⟨r.1, l.1⟩, rTok s 2 l.2)
def netP (s : Bytes) (i : Int) : Int × Nt × Int := fin nt0 (fun n => zX n.buses n.lines) (netR s i)
def vH (t : Bytes) : Int := if t = [112, 108, 97, 110] then 1 else if t = [108, 111, 115, 115] then 2 else if t = [116, 114, 105, 112] then 3 else 0
def kindR (s : Bytes) (rd : Rd) : Int × Rd :=
 if (rTok s 3 rd).e ≠ 0 then (0, rTok s 3 rd)
 else if vH (qY (expT s rd.i 3).2.1) = 0 then (0, ⟨(rTok s 3 rd).i, 3⟩) else (vH (qY (expT s rd.i 3).2.1), rTok s 3 rd)
def outR (s : Bytes) (i : Int) : Og × Rd :=
 let k := kindR s (rTok s 1 ⟨i, 0⟩)
 let r1 := rInt s k.2
 let r2 := rInt s r1.2
 let r3 := rInt s r2.2
 ((k.1, r1.1, r2.1, r3.1), rTok s 2 r3.2)
def outP (s : Bytes) (i : Int) : Int × Og × Int := fin (0, 0, 0, 0) (fun o => if qG o then 0 else 1) (outR s i)
def oneP {α : Type} (z : α) (p : Int → Int × α × Int) (rd : Rd) : α × Rd := if rd.e ≠ 0 then (z, rd) else ((p rd.i).2.1, rMove rd (p rd.i).1 (p rd.i).2.2)
def manyP {α : Type} (s : Bytes) (z : α) (p : Int → Int × α × Int) : Nat → Rd → List α × Rd
 | 0, rd => ([], rd)
 | n + 1, rd => if goOn s rd then ((oneP z p rd).1 :: (manyP s z p n (oneP z p rd).2).1, (manyP s z p n (oneP z p rd).2).2) else ([], rd)
def listP {α : Type} (s : Bytes) (y : Bytes) (z : α) (p : Int → Int × α × Int) (rd : Rd) : List α × Rd :=
 ((manyP s z p (fuel s) (rOpen s y rd)).1, rTok s 2 (manyP s z p (fuel s) (rOpen s y rd)).2)
def hourR (s : Bytes) (i : Int) : Hr × Rd :=
 let r := rInt s (rOpen s [104, 111, 117, 114] ⟨i, 0⟩)
 let b := listP s [98, 105, 100, 115] bd0 (bidP s) r.2
 let q := listP s [114, 101, 97, 108] bd0 (bidP s) b.2
 (⟨b.1, q.1, r.1⟩, rTok s 2 q.2)
def hourP (s : Bytes) (i : Int) : Int × Hr × Int := fin hr0 (fun _ => 0) (hourR s i)
def nI (s : Bytes) (i : Int) : Rt × Rd :=
 let r1 := rInt s (rOpen s [114, 105, 103, 104, 116] ⟨i, 0⟩)
 let r2 := rInt s r1.2
 let r3 := rInt s r2.2
 ((r1.1, r2.1, r3.1), rTok s 2 r3.2)
def vD (s : Bytes) (i : Int) : Int × Rt × Int := fin (0, 0, 0) (fun _ => 0) (nI s i)
def caseR (s : Bytes) (i : Int) : Cs × Rd :=
 let n := oneP nt0 (netP s) (rOpen s [99, 97, 115, 101] ⟨i, 0⟩)
 let u := listP s [117, 110, 105, 116, 115] un0 (unitP s) n.2
 let h := listP s [104, 111, 117, 114, 115] hr0 (hourP s) u.2
 let o := listP s [111, 117, 116, 97, 103, 101, 115] (0, 0, 0, 0) (outP s) h.2
 let r := listP s [114, 105, 103, 104, 116, 115] (0, 0, 0) (vD s) o.2
 (⟨n.1, u.1, h.1, o.1, r.1⟩, rTok s 2 r.2)
def caseP (s : Bytes) (i : Int) : Int × Cs × Int := fin cs0 dayE (caseR s i)
def dO (s : Bytes) : Int × Cs := if (caseP s 0).1 ≠ 0 then ((caseP s 0).1, cs0) else if (nextT s (caseP s 0).2.2).1 ≠ 8 then (6, cs0) else (0, (caseP s 0).2.1)
def nE : Bytes := [40, 99, 97, 115, 101, 32, 40, 110, 101, 116, 32, 49, 41, 32, 40, 117, 110, 105, 116, 115, 41, 32, 40, 104, 111, 117, 114, 115, 32, 40, 104, 111, 117, 114, 32, 48, 32, 40, 98, 105, 100, 115, 41, 32, 40, 114, 101, 97, 108, 41, 41, 41, 32, 40, 111, 117, 116, 97, 103, 101, 115, 41, 32, 40, 114, 105, 103, 104, 116, 115, 41, 41]
end Go.Proofs.YtkfhpefmmhljmaaGreatDoor
