/- Texts in one: LxL, TrlP. -/
import Derived.Test.YtkfhpefmmhljmaaGreatDoorR47
set_option linter.unusedVariables false
set_option linter.unusedSimpArgs false
set_option maxHeartbeats 16000000
namespace Go.Proofs.YtkfhpefmmhljmaaGreatDoor
def cost : Tk → Nat
 | .op => 2
 | .cl => 1
 | .wd t => t.length + 1
 | .nm _ => 12
def costs (l : List Tk) : Nat := (l.map cost).sum
theorem vF : costs [] = 0 := rfl
theorem qD (t : Tk) (l : List Tk) : costs (t :: l) = cost t + costs l := by unfold costs; rw [List.map_cons, List.sum_cons]
theorem kC (a b : List Tk) : costs (a ++ b) = costs a + costs b := by unfold costs; rw [List.map_append, List.sum_append]
theorem tQ {t : Tk} (h : TkSm t) (p : Tk) : (sepB p t).length + (tkStr t).length ≤ cost t := by
 cases t with
 | op => have := gD p .op; simp [tkStr, cost]; omega
 | cl => simp [sepB, isCl, tkStr, cost]
 | wd y => have := gD p (.wd y); simp [tkStr, cost]; omega
 | nm n => have := gD p (.nm n); have := jB h; simp [tkStr, cost]; omega
theorem kN : ∀ (l : List Tk) (o : Option Tk), (∀ t ∈ l, TkSm t) → (fmtGo o l).length ≤ costs l := by
 intro l
 induction l with
 | nil => intro o _; cases o <;> simp [fmtGo, costs]
 | cons t l ih =>
  intro o h;have h1 := ih (some t) (fun x hx => h x (by simp [hx]));have h2 := h t (by simp);rw [qD];cases o with
  | none => have := tQ h2 .op; rw [fmtGo, κa]; omega
  | some q => have := tQ h2 q; rw [fmtGo, κa, κa]; omega
theorem uH {α : Type} {T : α → List Tk} {m : Nat} (h : ∀ x, costs (T x) = m) (l : List α) : costs (l.flatMap T) = l.length * m := by
 induction l with
 | nil => simp [costs]
 | cons x l ih => rw [List.flatMap_cons, kC, ih, h, κc, Nat.succ_mul]; omega
theorem pY (x : St) : costs (stepT x) = 27 := by unfold stepT; simp [qD, vF, cost]
theorem sQ (x : Ln) : costs (lineT x) = 56 := by unfold lineT; simp [qD, vF, cost]
theorem bS {nb : Int} {b : Bd} (hn : nb ≤ 6) (hk : bidE nb b = 0) : (fmtT (bidT b)).length ≤ 100 := by
 obtain ⟨_, h2, h3, h4⟩ := jQ hn hk;have h5 := kN (bidT b) none (uJ h2 h4);have h6 : costs (bidT b) = 19 + b.steps.length * 27 := by
  unfold bidT;rw [qD, qD, qD, kC, uH pY];simp [qD, vF, cost];omega
 show (fmtGo none (bidT b)).length ≤ _
 omega
theorem eM {nb : Int} {u : Un} (hn : nb ≤ 6) (hk : unitE nb u = 0) : (fmtT (unitT u)).length ≤ 190 := by
 obtain ⟨_, h2, h3, h4⟩ := xD hn hk;have h5 := kN (unitT u) none (gA h2 h4);have h6 : costs (unitT u) = 104 + u.steps.length * 27 := by
  unfold unitT;rw [qD, qD, kC, kC, uH pY];simp [jK, qD, vF, cost];omega
 show (fmtGo none (unitT u)).length ≤ _
 omega
theorem lS {x : Nt} (h : qP x.buses x.lines = 0) : (fmtT (netT x)).length ≤ 580 := by
 obtain ⟨hb1, hb2, h3, h4⟩ := jN h;have h5 := kN (netT x) none (pE (by unfold small; omega) h4);have h6 : costs (netT x) = 19 + x.lines.length * 56 := by
  unfold netT;rw [qD, qD, qD, kC, uH sQ];simp [qD, vF, cost];omega
 show (fmtGo none (netT x)).length ≤ _
 omega
theorem lO {o : Og} (h : OgOk o) : (fmtT (outT o)).length ≤ 50 := by
 have h5 := kN (outT o) none (uB h.small);have hk : (kindW o.1).length = 4 := by unfold kindW; split; rfl; split <;> rfl
 have h6 : costs (outT o) = 44 := by unfold outT; simp [qD, vF, cost, hk]
 show (fmtGo none (outT o)).length ≤ _
 omega
theorem cI {r : Rt} (h : RtOk r) : (qQ r).length ≤ 50 := by
 have h1 := jB h.1;have h2 := jB h.2.1;have h3 := jB h.2.2;unfold qQ;simp only [κa, κc, κn];omega
theorem vB {α : Type} {f : α → Bytes} {y : Bytes} {l : List α} {m : Nat} (h : ∀ x ∈ l, (f x).length ≤ m) : (listS y (l.map f)).length ≤ y.length + 2 + l.length * (m + 1) := by
 have := xI (y := y) (ts := l.map f) (m := m) (fun t ht => by obtain ⟨x, hx, rfl⟩ := List.mem_map.1 ht; exact h x hx);rw [List.length_map] at this;unfold listS;simp only [κc, κa, κn];omega
theorem tC {nb : Int} {x : Hr} (hn : nb ≤ 6) (hk : HrOk nb x) : (hourS x).length ≤ 1250 := by
 have h1 := jB hk.e;have h2 := vB (y := [98, 105, 100, 115]) (f := fun x => fmtT (bidT x)) (fun b hb => bS hn (hk.a b hb));have h3 := vB (y := [114, 101, 97, 108]) (f := fun x => fmtT (bidT x)) (fun b hb => bS hn (hk.b b hb));have h4 := hk.c;have h5 := hk.d;unfold hourS;simp only [κa, κc, κn] at h2 h3 ⊢;omega
theorem tV {x : Cs} (hx : dayE x = 0) : (caseS x).length ≤ 13000 := by
 have ok := fL hx;obtain ⟨_, hn6, _, _⟩ := jN ok.net;have h1 := lS ok.net;have h2 := vB (y := [117, 110, 105, 116, 115]) (f := fun x => fmtT (unitT x)) (fun u hu => eM hn6 (ok.us u hu));have h3 := vB (y := [104, 111, 117, 114, 115]) (f := hourS) (fun u hu => tC hn6 (ok.hs u hu));have h4 := vB (y := [111, 117, 116, 97, 103, 101, 115]) (f := fun x => fmtT (outT x)) (fun u hu => lO (ok.os u hu));have h5 := vB (y := [114, 105, 103, 104, 116, 115]) (f := qQ) (fun u hu => cI (ok.rs u hu));have k1 := ok.un;have k2 := ok.hn;have k3 := ok.on;have k4 := ok.rn;unfold caseS joinS;simp only [List.flatMap_cons, List.flatMap_nil, κa, κc, κn] at h2 h3 h4 h5 ⊢;omega
theorem lK {s : Bytes} (h : (jX s).1 = 0) : (caseP s 0).1 = 0 ∧ jX s = (0, (caseP s 0).2.1) ∧ (nextT s (caseP s 0).2.2).1 = 8 := by
 unfold jX at h ⊢;by_cases h1 : (caseP s 0).1 ≠ 0
 ·rw [if_pos h1] at h; exact absurd h h1
 rw [if_neg h1] at h ⊢;by_cases h2 : (nextT s (caseP s 0).2.2).1 ≠ 8
 ·rw [if_pos h2] at h; exact absurd h (by decide)
 rw [if_neg h2] at h ⊢;exact ⟨Decidable.not_not.1 h1, rfl, Decidable.not_not.1 h2⟩
theorem lL {s : Bytes} (h : (jX s).1 ≠ 0) : (jX s).2 = cs0 := by
 unfold jX at h ⊢;by_cases h1 : (caseP s 0).1 ≠ 0
 ·rw [if_pos h1]
 rw [if_neg h1] at h ⊢;by_cases h2 : (nextT s (caseP s 0).2.2).1 ≠ 8
 ·rw [if_pos h2]
 rw [if_neg h2] at h;exact absurd rfl h
theorem sC {s : Bytes} (h : (jX s).1 = 0) : dayE (jX s).2 = 0 := by
 obtain ⟨h1, h2, _⟩ := lK h;rw [h2];exact (tU h1).2
theorem mJ {x : Cs} (hx : dayE x = 0) : jX (caseS x) = (0, x) ∧ (caseS x).any (· == 47) = false ∧ (caseS x).length ≤ 13000 := by
 have h0 := tV hx;exact ⟨sB hx (aZ hx false) (by omega), rA (aZ hx false), h0⟩
end Go.Proofs.YtkfhpefmmhljmaaGreatDoor
