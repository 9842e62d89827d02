/- Texts in one: FmP, FmQ. -/
import Derived.Test.YtkfhpefmmhljmaaGreatDoorE9
set_option linter.unusedVariables false
set_option linter.unusedSimpArgs false
set_option maxHeartbeats 16000000
namespace Go.Proofs.YtkfhpefmmhljmaaGreatDoor
def tkStr : Tk → Bytes
 | .op => [40]
 | .cl => [41]
 | .wd t => t
 | .nm n => Lib.itoa n
def isOp : Tk → Bool
 | .op => true
 | _ => false
def isCl : Tk → Bool
 | .cl => true
 | _ => false
def sepB (p t : Tk) : Bytes := if isOp p || isCl t then [] else [32]
def fmtGo : Option Tk → List Tk → Bytes
 | _, [] => []
 | none, t :: l => tkStr t ++ fmtGo (some t) l
 | some p, t :: l => sepB p t ++ tkStr t ++ fmtGo (some t) l
def fmtT (l : List Tk) : Bytes := fmtGo none l
def sepO : Option Tk → Tk → Bytes
 | none, _ => []
 | some p, t => sepB p t
theorem kT : ∀ (a b : List Tk) (o : Option Tk), fmtGo o (a ++ b) = fmtGo o a ++ fmtGo (match a.getLast? with | none => o | some p => some p) b := by
 intro a
 induction a with
 | nil => intro b o; cases o <;> simp [fmtGo]
 | cons t a ih =>
  intro b o;have e : (match (t :: a).getLast? with | none => o | some p => some p) = (match a.getLast? with | none => some t | some p => some p) := by
   cases a with
   | nil => rfl
   | cons x l =>
    rw [List.getLast?_cons_cons];cases h : (x :: l).getLast? with
    | none => simp at h
    | some y => rfl
  rw [e];cases o with
  | none => rw [κw, fmtGo, fmtGo, ih, κq]
  | some p => rw [κw, fmtGo, fmtGo, ih, κq, κq, κq]
theorem fN (l : List Tk) (t : Tk) : fmtT (l ++ [t]) = fmtT l ++ (sepO l.getLast? t ++ tkStr t) := by
 unfold fmtT;rw [kT];cases h : l.getLast? with
 | none => simp [fmtGo, sepO]
 | some p => simp [fmtGo, sepO]
def TkWf : Tk → Prop
 | .op => True
 | .cl => True
 | .wd t => allB isLow t = true ∧ t.length ≤ 1000
 | .nm n => -2147483648 < n ∧ n < 2147483648
theorem fM (l : List Tk) (k : Nat) : (fmtT (l.take k)).length ≤ (fmtT l).length := by
 have h : fmtT l = fmtT (l.take k ++ l.drop k) := by rw [List.take_append_drop]
 rw [h];unfold fmtT;rw [kT, κa];omega
theorem vS (l : List Tk) (k : Nat) (h : k < l.length) (d : Tk) : (l.take (k + 1)).getLast? = some (l.getD k d) := by
 have e : l.getD k d = l[k] := by simp [h]
 rw [κs h, List.getLast?_concat, e]
def lineT (x : Ln) : List Tk := [.op, .wd [108, 105, 110, 101], .nm x.1, .nm x.2.1, .nm x.2.2.1, .nm x.2.2.2, .cl]
def netT (x : Nt) : List Tk := .op :: .wd [110, 101, 116] :: .nm x.buses :: (x.lines.flatMap lineT ++ [.cl])
def stepT (x : St) : List Tk := [.op, .nm x.1, .nm x.2, .cl]
def bidT (b : Bd) : List Tk := .op :: .wd [98, 105, 100] :: .nm b.bus :: (b.steps.flatMap stepT ++ [.cl])
def xS (u : Un) : List Int := [u.bus, u.min, u.up, u.down, u.start, u.idle, u.spin, u.on]
def unitT (u : Un) : List Tk := .op :: .wd [117, 110, 105, 116] :: ((xS u).map .nm ++ (u.steps.flatMap stepT ++ [.cl]))
def kindW (k : Int) : Bytes := if k = 1 then [112, 108, 97, 110] else if k = 2 then [108, 111, 115, 115] else [116, 114, 105, 112]
def outT (o : Og) : List Tk := [.op, .wd (kindW o.1), .nm o.2.1, .nm o.2.2.1, .nm o.2.2.2, .cl]
theorem aK (n : Nat) : ∀ k, 0 < k → n < 10 ^ k → (Lib.decDigits n).length ≤ k := by
 induction n using Nat.strongRecOn with
 | _ n ih =>
  intro k hk h;rw [Lib.decDigits];split
  ·simp; omega
  ·next h10 =>
   obtain ⟨k, rfl⟩ : ∃ j, k = j + 1 := ⟨k - 1, by omega⟩;have hk0 : k ≠ 0 := by intro e; subst e; simp at h; omega
   rw [Nat.pow_succ] at h;have := ih (n / 10) (by omega) k (by omega) (by omega);simp;omega
theorem jO {n : Int} (h : -2147483648 < n ∧ n < 2147483648) : (Lib.itoa n).length ≤ 11 := by
 unfold Lib.itoa;split
 ·have := aK n.natAbs 10 (by decide) (by omega);simp;omega
 ·have := aK n.toNat 10 (by decide) (by omega);omega
def TkSm : Tk → Prop
 | .wd t => allB isLow t = true ∧ t.length ≤ 10
 | .nm n => -2147483648 < n ∧ n < 2147483648
 | _ => True
theorem TkSm.wf {t : Tk} (h : TkSm t) : TkWf t := by
 cases t with
 | op => trivial
 | cl => trivial
 | wd t => exact ⟨h.1, by have := h.2; omega⟩
 | nm n => exact h
theorem TkSm.len {t : Tk} (h : TkSm t) : (tkStr t).length ≤ 11 := by
 cases t with
 | op => simp [tkStr]
 | cl => simp [tkStr]
 | wd t => have := h.2; simp [tkStr]; omega
 | nm n => exact jO h
theorem bI (p t : Tk) : (sepB p t).length ≤ 1 := by unfold sepB; split <;> simp
theorem xG : ∀ (l : List Tk) (o : Option Tk), (∀ t ∈ l, TkSm t) → (fmtGo o l).length ≤ 12 * l.length := by
 intro l
 induction l with
 | nil => intro o _; cases o <;> simp [fmtGo]
 | cons t l ih =>
  intro o h;have h1 := (h t (by simp)).len;have h2 := ih (some t) (fun x hx => h x (by simp [hx]));cases o with
  | none => rw [fmtGo, κa, κc]; omega
  | some p => have h3 := bI p t; rw [fmtGo, κa, κa, κc]; omega
theorem kA {l : List Tk} (h : ∀ t ∈ l, TkSm t) (hl : l.length ≤ 5000) : (fmtT l).length ≤ 65536 := by
 have := xG l none h;unfold fmtT;omega
def small (n : Int) : Prop := -2147483648 < n ∧ n < 2147483648
theorem nV {x : Nt} (hb : small x.buses) (hl : ∀ l ∈ x.lines, small l.1 ∧ small l.2.1 ∧ small l.2.2.1 ∧ small l.2.2.2) : ∀ t ∈ netT x, TkSm t := by
 intro t ht;unfold netT at ht;simp only [List.mem_cons, List.mem_append, List.mem_flatMap, List.mem_singleton] at ht;rcases ht with rfl | rfl | rfl | ⟨l, hlm, ht⟩ | rfl | h
 ·trivial
 ·exact ⟨by decide, by decide⟩
 ·exact hb
 ·obtain ⟨h1, h2, h3, h4⟩ := hl l hlm;unfold lineT at ht;simp only [List.mem_cons, List.not_mem_nil, or_false] at ht;rcases ht with rfl | rfl | rfl | rfl | rfl | rfl | rfl
  ·trivial
  ·exact ⟨by decide, by decide⟩
  ·exact h1
  ·exact h2
  ·exact h3
  ·exact h4
  ·trivial
 ·trivial
 ·cases h
theorem dZ {l : List St} (h : ∀ s ∈ l, small s.1 ∧ small s.2) : ∀ t ∈ l.flatMap stepT, TkSm t := by
 intro t ht;simp only [List.mem_flatMap] at ht;obtain ⟨s, hs, ht⟩ := ht;obtain ⟨h1, h2⟩ := h s hs;unfold stepT at ht;simp only [List.mem_cons, List.not_mem_nil, or_false] at ht;rcases ht with rfl | rfl | rfl | rfl
 ·trivial
 ·exact h1
 ·exact h2
 ·trivial
theorem dS {b : Bd} (hb : small b.bus) (h : ∀ s ∈ b.steps, small s.1 ∧ small s.2) : ∀ t ∈ bidT b, TkSm t := by
 intro t ht;unfold bidT at ht;simp only [List.mem_cons, List.mem_append, List.not_mem_nil, or_false] at ht;rcases ht with rfl | rfl | rfl | ht | rfl
 ·trivial
 ·exact ⟨by decide, by decide⟩
 ·exact hb
 ·exact dZ h t ht
 ·trivial
theorem dX {u : Un} (hu : ∀ n ∈ xS u, small n) (h : ∀ s ∈ u.steps, small s.1 ∧ small s.2) : ∀ t ∈ unitT u, TkSm t := by
 intro t ht;unfold unitT at ht;simp only [List.mem_cons, List.mem_append, List.mem_map, List.not_mem_nil, or_false] at ht;rcases ht with rfl | rfl | ⟨n, hn, rfl⟩ | ht | rfl
 ·trivial
 ·exact ⟨by decide, by decide⟩
 ·exact hu n hn
 ·exact dZ h t ht
 ·trivial
theorem gC {o : Og} (h : small o.2.1 ∧ small o.2.2.1 ∧ small o.2.2.2) : ∀ t ∈ outT o, TkSm t := by
 intro t ht;unfold outT at ht;simp only [List.mem_cons, List.not_mem_nil, or_false] at ht;rcases ht with rfl | rfl | rfl | rfl | rfl | rfl
 ·trivial
 ·have : allB isLow (kindW o.1) = true ∧ (kindW o.1).length ≤ 10 := by
   unfold kindW;split
   ·exact ⟨by decide, by decide⟩
   ·split
    ·exact ⟨by decide, by decide⟩
    ·exact ⟨by decide, by decide⟩
  exact this
 ·exact h.1
 ·exact h.2.1
 ·exact h.2.2
 ·trivial
theorem kE {nb : Int} {ls : List Ln} (h : qI nb ls = 0) : 1 ≤ nb ∧ nb ≤ 6 ∧ ls.length ≤ 10 ∧ ∀ l ∈ ls, small l.1 ∧ small l.2.1 ∧ small l.2.2.1 ∧ small l.2.2.2 := by
 unfold qI at h;by_cases h1 : nb < 1 ∨ 6 < nb
 ·rw [if_pos h1] at h; cases h
 rw [if_neg h1] at h;by_cases h2 : 10 < ls.length
 ·rw [if_pos h2] at h; cases h
 rw [if_neg h2] at h;by_cases h3 : ls.all (jY nb) = true
 ·refine ⟨by omega, by omega, by omega, fun l hl => ?_⟩;have h4 := List.all_eq_true.1 h3 l hl;unfold jY chk at h4;simp only [κb, κe] at h4;unfold small;omega
 ·rw [if_neg h3] at h; cases h
theorem nB {f : Int → Int → Bool} : ∀ {l : List St} {o : Option Int}, stGo f o l = 0 → ∀ s ∈ l, stOk s = true := by
 intro l
 induction l with
 | nil => intro o _ s hs; cases hs
 | cons x l ih =>
  intro o h s hs;rw [stGo] at h;by_cases h1 : (!stOk x) = true
  ·rw [if_pos h1] at h; cases h
  rw [if_neg h1] at h;by_cases h2 : (o.any fun p => !f p x.2) = true
  ·rw [if_pos h2] at h; cases h
  rw [if_neg h2] at h;rcases List.mem_cons.1 hs with rfl | hs
  ·cases h3 : stOk s
   ·rw [h3] at h1; exact absurd rfl h1
   ·rfl
  ·exact ih h s hs
theorem gS {f : Int → Int → Bool} {l : List St} (h : zN f l = 0) : 0 < l.length ∧ l.length ≤ 3 ∧ ∀ s ∈ l, small s.1 ∧ small s.2 := by
 unfold zN at h;by_cases h1 : l.length = 0
 ·rw [if_pos h1] at h; cases h
 rw [if_neg h1] at h;by_cases h2 : 3 < l.length
 ·rw [if_pos h2] at h; cases h
 rw [if_neg h2] at h;refine ⟨by omega, by omega, fun s hs => ?_⟩;have h3 := nB h s hs;unfold stOk at h3;simp only [κb, κe] at h3;unfold small;omega
theorem bC {f : Int → Int → Bool} {l : List St} (h : zN f l = 0) : qM l ≤ 3000000 := by
 unfold zN at h;by_cases h1 : l.length = 0
 ·rw [if_pos h1] at h; cases h
 rw [if_neg h1] at h;by_cases h2 : 3 < l.length
 ·rw [if_pos h2] at h; cases h
 rw [if_neg h2] at h;have h5 : ∀ s ∈ l, s.1 ≤ 1000000 := fun s hs => by
  have h3 := nB h s hs;unfold stOk at h3;simp only [κb, κe] at h3;omega
 unfold qM;have : ∀ l : List St, (∀ s ∈ l, s.1 ≤ 1000000) → (l.map (·.1)).sum ≤ l.length * 1000000 := by
  intro l
  induction l with
  | nil => intro _; simp
  | cons x l ih =>
   intro hl;have h6 := ih (fun s hs => hl s (by simp [hs]));have h7 := hl x (by simp);rw [List.map_cons, List.sum_cons, κc];omega
 have := this l h5;omega
theorem eK {b n : Int} (hn : n ≤ 6) (h : inB b n = true) : inB b 6 = true ∧ small b := by
 unfold inB at h ⊢;simp only [κb, κe] at h ⊢;unfold small;omega
theorem uC {n : Int} {b : Bd} (hn : n ≤ 6) (h : bidE n b = 0) : bidE 6 b = 0 ∧ small b.bus ∧ b.steps.length ≤ 3 ∧ ∀ s ∈ b.steps, small s.1 ∧ small s.2 := by
 unfold bidE at h;cases hb : inB b.bus n with
 | false => rw [hb] at h; cases h
 | true =>
  rw [hb] at h;obtain ⟨h1, h2⟩ := eK hn hb;have h3 : zN falls b.steps = 0 := h;obtain ⟨_, h4, h5⟩ := gS h3;exact ⟨by unfold bidE; rw [h1]; exact h3, h2, h4, h5⟩
theorem kY {n : Int} {u : Un} (hn : n ≤ 6) (h : unitE n u = 0) : unitE 6 u = 0 ∧ (∀ n ∈ xS u, small n) ∧ u.steps.length ≤ 3 ∧ ∀ s ∈ u.steps, small s.1 ∧ small s.2 := by
 unfold unitE at h;cases hb : inB u.bus n with
 | false => rw [hb] at h; cases h
 | true =>
  rw [hb] at h;replace h : (if zN rises u.steps ≠ 0 then zN rises u.steps else if kO u then 0 else 1) = 0 := h;obtain ⟨h1, h2⟩ := eK hn hb;by_cases h3 : zN rises u.steps ≠ 0
  ·rw [if_pos h3] at h; exact absurd h h3
  rw [if_neg h3] at h;have h3' : zN rises u.steps = 0 := Decidable.not_not.1 h3;obtain ⟨_, h4, h5⟩ := gS h3';cases hr : kO u with
  | false => rw [hr] at h; cases h
  | true =>
   refine ⟨by unfold unitE; rw [h1, hr, if_neg h3]; rfl, fun m hm => ?_, h4, h5⟩;have hq := bC h3';unfold kO at hr;simp only [κb, κe] at hr;have hmin : small u.min := by unfold small; omega
   unfold xS at hm;simp only [List.mem_cons, List.not_mem_nil, or_false] at hm;unfold small at h2 hmin ⊢;rcases hm with rfl | rfl | rfl | rfl | rfl | rfl | rfl | rfl
   ·exact h2
   ·exact hmin
   iterate 6 (omega)
end Go.Proofs.YtkfhpefmmhljmaaGreatDoor
