/- Texts in one: LxP, LxQ. -/
import Derived.Test.YtkfhpefmmhljmaaGreatDoorQ42
set_option linter.unusedVariables false
set_option linter.unusedSimpArgs false
set_option maxHeartbeats 16000000
/- LxP -/
namespace Go.Proofs.YtkfhpefmmhljmaaGreatDoor
def Toks (s : Bytes) : Int → List Tk → Int → Prop
 | i, [], j => i = j
 | i, t :: l, j => ∃ k, nextT s i = (0, t, k) ∧ Toks s k l j
theorem toks_append {s : Bytes} : ∀ {a b : List Tk} {i j : Int}, Toks s i (a ++ b) j ↔ ∃ k, Toks s i a k ∧ Toks s k b j := by
 intro a
 induction a with
 | nil => intro b i j; exact ⟨fun h => ⟨i, rfl, h⟩, fun ⟨k, h1, h2⟩ => by cases h1; exact h2⟩
 | cons t a ih =>
  intro b i j;constructor
  ·rintro ⟨k, h1, h2⟩;obtain ⟨m, h3, h4⟩ := ih.1 h2;exact ⟨m, ⟨k, h1, h3⟩, h4⟩
  ·rintro ⟨m, ⟨k, h1, h3⟩, h4⟩;exact ⟨k, h1, ih.2 ⟨m, h3, h4⟩⟩
theorem toks_gt {s : Bytes} : ∀ {a : List Tk} {i j : Int}, Toks s i a j → i + a.length ≤ j := by
 intro a
 induction a with
 | nil => intro i j h; cases h; simp
 | cons t a ih =>
  rintro i j ⟨k, h1, h2⟩;have h3 := ih h2;have h4 := (next_gt s i (by rw [h1])).2.2;rw [h1] at h4;rw [List.length_cons]
  push_cast
  show i + (a.length + 1 : Int) ≤ j
  replace h4 : i < k := h4;omega
theorem rTok_back {s : Bytes} {k : Int} {rd : Rd} (h : (rTok s k rd).e = 0) : rd.e = 0 ∧ ∃ t, nextT s rd.i = (0, t, (rTok s k rd).i) ∧ tkKind t = k := by
 by_cases he : rd.e ≠ 0
 ·rw [rTok, if_pos he] at h; exact absurd h he
 have he' : rd.e = 0 := Decidable.not_not.1 he;rw [rTok, if_neg he] at h ⊢;unfold rMove at h ⊢;by_cases h1 : (expT s rd.i k).1 = 0
 ·rw [if_pos h1];obtain ⟨h2, h3, h4⟩ := expT_ok h1;refine ⟨he', (nextT s rd.i).2.1, ?_, h4⟩;rw [h3];show _ = (0, (nextT s rd.i).2.1, (nextT s rd.i).2.2)
  rw [← h2]
 ·rw [if_neg h1] at h; exact absurd h h1
def Run (s : Bytes) (l : List Tk) (rd rd' : Rd) : Prop := rd'.e = 0 → rd.e = 0 ∧ Toks s rd.i l rd'.i
theorem Run.refl {s : Bytes} {rd : Rd} : Run s [] rd rd := fun h => ⟨h, rfl⟩
theorem Run.trans {s : Bytes} {l m : List Tk} {a b c : Rd} (h : Run s l a b) (k : Run s m b c) : Run s (l ++ m) a c := fun h0 => by
 obtain ⟨h1, h2⟩ := k h0;obtain ⟨h3, h4⟩ := h h1;exact ⟨h3, toks_append.2 ⟨_, h4, h2⟩⟩
theorem run_op (s : Bytes) (rd : Rd) : Run s [.op] rd (rTok s 1 rd) := fun h => by
 obtain ⟨h1, t, h2, h3⟩ := rTok_back h;have : t = .op := by cases t <;> first | rfl | (simp [tkKind] at h3)
 subst this;exact ⟨h1, _, h2, rfl⟩
theorem run_cl (s : Bytes) (rd : Rd) : Run s [.cl] rd (rTok s 2 rd) := fun h => by
 obtain ⟨h1, t, h2, h3⟩ := rTok_back h;have : t = .cl := by cases t <;> first | rfl | (simp [tkKind] at h3)
 subst this;exact ⟨h1, _, h2, rfl⟩
theorem run_word (s : Bytes) (y : Bytes) (rd : Rd) : Run s [.wd y] rd (rWord s y rd) := fun h => by
 by_cases he : rd.e ≠ 0
 ·rw [rWord, if_pos he] at h; exact absurd h he
 have he' : rd.e = 0 := Decidable.not_not.1 he;rw [rWord, if_neg he] at h ⊢;unfold rMove at h ⊢;by_cases h1 : (expW s rd.i y).1 = 0
 ·rw [if_pos h1];refine ⟨he', (expW s rd.i y).2, ?_, rfl⟩;unfold expW at h1 ⊢;by_cases h2 : (expT s rd.i 3).1 ≠ 0
  ·rw [if_pos h2] at h1; exact absurd h1 h2
  rw [if_neg h2] at h1 ⊢;by_cases h3 : tkText (expT s rd.i 3).2.1 ≠ y
  ·rw [if_pos h3] at h1; cases h1
  rw [if_neg h3];obtain ⟨h4, h5, h6⟩ := expT_ok (Decidable.not_not.1 h2);have h3' := Decidable.not_not.1 h3;rw [h5] at h3' ⊢;have h7 : (nextT s rd.i).2.1 = .wd y := by
   cases h8 : (nextT s rd.i).2.1 with
   | wd t => rw [h8] at h3'; exact congrArg Tk.wd h3'
   | op => rw [h8] at h6; simp [tkKind] at h6
   | cl => rw [h8] at h6; simp [tkKind] at h6
   | nm n => rw [h8] at h6; simp [tkKind] at h6
  show nextT s rd.i = (0, .wd y, (nextT s rd.i).2.2)
  rw [← h7, ← h4]
 ·rw [if_neg h1] at h; exact absurd h h1
theorem run_int (s : Bytes) (rd : Rd) : Run s [.nm (rInt s rd).1] rd (rInt s rd).2 := fun h => by
 by_cases he : rd.e ≠ 0
 ·rw [rInt, if_pos he] at h; exact absurd h he
 have he' : rd.e = 0 := Decidable.not_not.1 he;rw [rInt, if_neg he] at h ⊢;unfold rMove at h ⊢;by_cases h1 : (expI s rd.i).1 = 0
 ·simp only [if_pos h1];refine ⟨he', (expI s rd.i).2.2, ?_, rfl⟩;unfold expI at h1 ⊢;by_cases h2 : (expT s rd.i 4).1 ≠ 0
  ·rw [if_pos h2] at h1; exact absurd h1 h2
  rw [if_neg h2] at h1 ⊢;by_cases h3 : (!i64In (tkNum (expT s rd.i 4).2.1)) = true
  ·rw [if_pos h3] at h1; cases h1
  rw [if_neg h3];obtain ⟨h4, h5, h6⟩ := expT_ok (Decidable.not_not.1 h2);rw [h5];have h7 : (nextT s rd.i).2.1 = .nm (tkNum (nextT s rd.i).2.1) := by
   cases h8 : (nextT s rd.i).2.1 with
   | nm n => rfl
   | op => rw [h8] at h6; simp [tkKind] at h6
   | cl => rw [h8] at h6; simp [tkKind] at h6
   | wd n => rw [h8] at h6; simp [tkKind] at h6
  show nextT s rd.i = (0, .nm (tkNum (nextT s rd.i).2.1), (nextT s rd.i).2.2)
  rw [← h7, ← h4]
 ·simp only [if_neg h1] at h; exact absurd h h1
theorem run_open (s : Bytes) (y : Bytes) (rd : Rd) : Run s [.op, .wd y] rd (rOpen s y rd) := (run_op s rd).trans (run_word s y _)
theorem run_step (s : Bytes) (rd : Rd) : Run s (stepT (stepP s rd).1) rd (stepP s rd).2 := (((run_op s rd).trans (run_int s _)).trans (run_int s _)).trans (run_cl s _)
theorem run_steps (s : Bytes) : ∀ (n : Nat) (rd : Rd), Run s ((stepsP s n rd).1.flatMap stepT) rd (stepsP s n rd).2 := by
 intro n
 induction n with
 | zero => intro rd; exact Run.refl
 | succ n ih =>
  intro rd h;rw [stepsP] at h ⊢;by_cases h1 : goOn s rd = true
  ·rw [if_pos h1] at h ⊢;by_cases h2 : (stepP s rd).2.e = 0
   ·rw [if_pos h2] at h ⊢;exact ((run_step s rd).trans (ih _)) h
   ·rw [if_neg h2] at h;exact absurd (ih _ h).1 h2
  ·rw [if_neg h1] at h ⊢;exact Run.refl h
theorem run_bid (s : Bytes) (i : Int) : Run s (bidT (bidR s i).1) ⟨i, 0⟩ (bidR s i).2 :=
 ((((run_op s _).trans (run_word s _ _)).trans (run_int s _)).trans (run_steps s _ _)).trans (run_cl s _)
theorem run_unit (s : Bytes) (i : Int) : Run s (unitT (unitR s i).1) ⟨i, 0⟩ (unitR s i).2 :=
 ((((((((((((run_op s _).trans (run_word s _ _)).trans (run_int s _)).trans (run_int s _)).trans (run_int s _)).trans (run_int s _)).trans (run_int s _)).trans (run_int s _)).trans (run_int s _)).trans (run_int s _)).trans (run_steps s _ _)).trans (run_cl s _))
theorem run_line (s : Bytes) (rd : Rd) : Run s (lineT (lineR s rd).1) rd (lineR s rd).2 :=
 ((((((run_op s rd).trans (run_word s _ _)).trans (run_int s _)).trans (run_int s _)).trans (run_int s _)).trans (run_int s _)).trans (run_cl s _)
theorem run_lines (s : Bytes) : ∀ (n : Nat) (rd : Rd), Run s ((linesP s n rd).1.flatMap lineT) rd (linesP s n rd).2 := by
 intro n
 induction n with
 | zero => intro rd; exact Run.refl
 | succ n ih =>
  intro rd h;rw [linesP] at h ⊢;by_cases h1 : goOn s rd = true
  ·rw [if_pos h1] at h ⊢;exact ((run_line s rd).trans (ih _)) h
  ·rw [if_neg h1] at h ⊢;exact Run.refl h
theorem run_net (s : Bytes) (i : Int) : Run s (netT (netR s i).1) ⟨i, 0⟩ (netR s i).2 :=
 ((((run_op s _).trans (run_word s _ _)).trans (run_int s _)).trans (run_lines s _ _)).trans (run_cl s _)
theorem run_kind (s : Bytes) (rd : Rd) : Run s [.wd (kindW (kindR s rd).1)] rd (kindR s rd).2 := fun h => by
 unfold kindR at h ⊢;by_cases h1 : (rTok s 3 rd).e ≠ 0
 ·rw [if_pos h1] at h; exact absurd h h1
 rw [if_neg h1] at h ⊢;by_cases h2 : kindOf (tkText (expT s rd.i 3).2.1) = 0
 ·rw [if_pos h2] at h; cases h
 rw [if_neg h2] at h ⊢;obtain ⟨h3, t, h4, h5⟩ := rTok_back h;refine ⟨h3, _, ?_, rfl⟩;rw [h4];have h6 : expT s rd.i 3 = (0, t, (rTok s 3 rd).i) := by
  unfold expT;rw [h4];simp [h5]
 rw [h6] at h2;rw [h6];cases t with
 | wd t =>
  replace h2 : ¬ kindOf t = 0 := h2;show (0, Tk.wd t, _) = (0, Tk.wd (kindW (kindOf t)), _)
  have : kindW (kindOf t) = t := by
   unfold kindOf at h2 ⊢;by_cases k1 : t = [112, 108, 97, 110]
   ·rw [if_pos k1, k1]; rfl
   rw [if_neg k1] at h2 ⊢;by_cases k2 : t = [108, 111, 115, 115]
   ·rw [if_pos k2, k2]; rfl
   rw [if_neg k2] at h2 ⊢;by_cases k3 : t = [116, 114, 105, 112]
   ·rw [if_pos k3, k3]; rfl
   rw [if_neg k3] at h2;exact absurd rfl h2
  rw [this]
 | op => simp [tkKind] at h5
 | cl => simp [tkKind] at h5
 | nm n => simp [tkKind] at h5
theorem run_out (s : Bytes) (i : Int) : Run s (outT (outR s i).1) ⟨i, 0⟩ (outR s i).2 :=
 (((((run_op s _).trans (run_kind s _)).trans (run_int s _)).trans (run_int s _)).trans (run_int s _)).trans (run_cl s _)
def rightT (r : Rt) : List Tk := [.op, .wd [114, 105, 103, 104, 116], .nm r.1, .nm r.2.1, .nm r.2.2, .cl]
theorem run_right (s : Bytes) (i : Int) : Run s (rightT (rightR s i).1) ⟨i, 0⟩ (rightR s i).2 :=
 ((((run_open s _ _).trans (run_int s _)).trans (run_int s _)).trans (run_int s _)).trans (run_cl s _)
def Rdg {α : Type} (s : Bytes) (T : α → List Tk) (p : Int → Int × α × Int) : Prop := ∀ i, (p i).1 = 0 → Toks s i (T (p i).2.1) (p i).2.2
theorem rdg_fin {α : Type} {s : Bytes} {T : α → List Tk} {z : α} {chk : α → Int} {f : Int → α × Rd} (h : ∀ i, Run s (T (f i).1) ⟨i, 0⟩ (f i).2) : Rdg s T (fun i => fin z chk (f i)) := fun i h0 => by
 replace h0 : (fin z chk (f i)).1 = 0 := h0;show Toks s i (T (fin z chk (f i)).2.1) (fin z chk (f i)).2.2
 unfold fin at h0 ⊢;by_cases h1 : (f i).2.e ≠ 0
 ·rw [if_pos h1] at h0; exact absurd h0 h1
 rw [if_neg h1] at h0 ⊢;by_cases h2 : chk (f i).1 ≠ 0
 ·rw [if_pos h2] at h0; exact absurd h0 h2
 rw [if_neg h2];exact (h i (Decidable.not_not.1 h1)).2
theorem run_one {α : Type} {s : Bytes} {T : α → List Tk} {p : Int → Int × α × Int} (z : α) (hp : Rdg s T p) (rd : Rd) : Run s (T (oneP z p rd).1) rd (oneP z p rd).2 := fun h => by
 unfold oneP at h ⊢;by_cases h1 : rd.e ≠ 0
 ·rw [if_pos h1] at h; exact absurd h h1
 rw [if_neg h1] at h ⊢;have h1' := Decidable.not_not.1 h1;unfold rMove at h ⊢;by_cases h2 : (p rd.i).1 = 0
 ·rw [if_pos h2]; exact ⟨h1', hp _ h2⟩
 ·rw [if_neg h2] at h; exact absurd h h2
theorem run_many {α : Type} {s : Bytes} {T : α → List Tk} {p : Int → Int × α × Int} (z : α) (hp : Rdg s T p) : ∀ (n : Nat) (rd : Rd), Run s ((manyP s z p n rd).1.flatMap T) rd (manyP s z p n rd).2 := by
 intro n
 induction n with
 | zero => intro rd; exact Run.refl
 | succ n ih =>
  intro rd h;rw [manyP] at h ⊢;by_cases h1 : goOn s rd = true
  ·rw [if_pos h1] at h ⊢;exact ((run_one z hp rd).trans (ih _)) h
  ·rw [if_neg h1] at h ⊢;exact Run.refl h
def listT {α : Type} (y : Bytes) (T : α → List Tk) (l : List α) : List Tk := [.op, .wd y] ++ l.flatMap T ++ [.cl]
theorem run_list {α : Type} {s : Bytes} {T : α → List Tk} {p : Int → Int × α × Int} (y : Bytes) (z : α) (hp : Rdg s T p) (rd : Rd) : Run s (listT y T (listP s y z p rd).1) rd (listP s y z p rd).2 :=
 ((run_open s y rd).trans (run_many z hp _ _)).trans (run_cl s _)
def hourT (h : Hr) : List Tk := [.op, .wd [104, 111, 117, 114]] ++ [.nm h.need] ++ listT [98, 105, 100, 115] bidT h.bids ++ listT [114, 101, 97, 108] bidT h.real ++ [.cl]
theorem run_hour (s : Bytes) (i : Int) : Run s (hourT (hourR s i).1) ⟨i, 0⟩ (hourR s i).2 :=
 ((((run_open s _ _).trans (run_int s _)).trans (run_list _ _ (rdg_fin (run_bid s)) _)).trans (run_list _ _ (rdg_fin (run_bid s)) _)).trans (run_cl s _)
def caseT (x : Cs) : List Tk := [.op, .wd [99, 97, 115, 101]] ++ netT x.net ++ listT [117, 110, 105, 116, 115] unitT x.units ++ listT [104, 111, 117, 114, 115] hourT x.hours ++ listT [111, 117, 116, 97, 103, 101, 115] outT x.outs ++ listT [114, 105, 103, 104, 116, 115] rightT x.rights ++ [.cl]
theorem run_case (s : Bytes) (i : Int) : Run s (caseT (caseR s i).1) ⟨i, 0⟩ (caseR s i).2 :=
 ((((((run_open s _ _).trans (run_one _ (rdg_fin (run_net s)) _)).trans (run_list _ _ (rdg_fin (run_unit s)) _)).trans (run_list _ _ (rdg_fin (run_hour s)) _)).trans (run_list _ _ (rdg_fin (run_out s)) _)).trans (run_list _ _ (rdg_fin (run_right s)) _)).trans (run_cl s _)
theorem case_read {s : Bytes} {i : Int} (h : (caseP s i).1 = 0) : Toks s i (caseT (caseP s i).2.1) (caseP s i).2.2 ∧ dayE (caseP s i).2.1 = 0 := by
 refine ⟨rdg_fin (z := cs0) (chk := dayE) (run_case s) i h, ?_⟩;unfold caseP fin at h ⊢;by_cases h1 : (caseR s i).2.e ≠ 0
 ·rw [if_pos h1] at h; exact absurd h h1
 rw [if_neg h1] at h ⊢;by_cases h2 : dayE (caseR s i).1 ≠ 0
 ·rw [if_pos h2] at h; exact absurd h h2
 rw [if_neg h2];exact Decidable.not_not.1 h2
theorem expT_fwd {s : Bytes} {i k : Int} {t : Tk} (h : nextT s i = (0, t, k)) : expT s i (tkKind t) = (0, t, k) := by
 unfold expT;rw [h];simp
theorem rTok_fwd {s : Bytes} {i k : Int} {t : Tk} (h : nextT s i = (0, t, k)) : rTok s (tkKind t) ⟨i, 0⟩ = ⟨k, 0⟩ := by
 unfold rTok;rw [if_neg (by simp)];show rMove _ (expT s i (tkKind t)).1 (expT s i (tkKind t)).2.2 = _
 rw [expT_fwd h];rfl
theorem rOp_fwd {s : Bytes} {i k : Int} (h : nextT s i = (0, .op, k)) : rTok s 1 ⟨i, 0⟩ = ⟨k, 0⟩ := rTok_fwd h
theorem rCl_fwd {s : Bytes} {i k : Int} (h : nextT s i = (0, .cl, k)) : rTok s 2 ⟨i, 0⟩ = ⟨k, 0⟩ := rTok_fwd h
theorem rWord_fwd {s : Bytes} {i k : Int} {y : Bytes} (h : nextT s i = (0, .wd y, k)) : rWord s y ⟨i, 0⟩ = ⟨k, 0⟩ := by
 have e : expW s i y = (0, k) := by
  unfold expW;rw [show expT s i 3 = (0, .wd y, k) from expT_fwd h];simp [tkText]
 unfold rWord;rw [if_neg (by simp)];show rMove _ (expW s i y).1 (expW s i y).2 = _
 rw [e];rfl
theorem rInt_fwd {s : Bytes} {i k n : Int} (h : nextT s i = (0, .nm n, k)) (hn : small n) : rInt s ⟨i, 0⟩ = (n, ⟨k, 0⟩) := by
 have hi : i64In n = true := by
  unfold small at hn;unfold i64In;simp only [Bool.and_eq_true, decide_eq_true_eq];omega
 have e : expI s i = (0, n, k) := by
  unfold expI;rw [show expT s i 4 = (0, .nm n, k) from expT_fwd h];simp [tkNum, hi]
 unfold rInt;rw [if_neg (by simp)];show ((expI s i).2.1, rMove _ (expI s i).1 (expI s i).2.2) = _
 rw [e];rfl
theorem rOpen_fwd {s : Bytes} {i k m : Int} {y : Bytes} (h : nextT s i = (0, .op, k)) (h2 : nextT s k = (0, .wd y, m)) : rOpen s y ⟨i, 0⟩ = ⟨m, 0⟩ := by
 unfold rOpen;rw [rOp_fwd h, rWord_fwd h2]
theorem goOn_op {s : Bytes} {i k : Int} (h : nextT s i = (0, .op, k)) : goOn s ⟨i, 0⟩ = true := by
 unfold goOn peekT;simp [h, tkKind]
theorem goOn_cl {s : Bytes} {i k : Int} (h : nextT s i = (0, .cl, k)) : goOn s ⟨i, 0⟩ = false := by
 unfold goOn peekT;simp [h, tkKind]
theorem lex_in {s : Bytes} {i k : Int} {t : Tk} (h : nextT s i = (0, t, k)) : 0 ≤ i ∧ i < s.length := by
 have := next_gt s i (by rw [h]);exact ⟨this.1, this.2.1⟩
theorem flat_len {α : Type} {T : α → List Tk} (hT : ∀ x, ∃ l, T x = .op :: l) (l : List α) : l.length ≤ (l.flatMap T).length := by
 induction l with
 | nil => simp
 | cons x l ih =>
  obtain ⟨m, hm⟩ := hT x;rw [List.flatMap_cons, List.length_append, List.length_cons, hm, List.length_cons];omega
theorem fuel_ok {α : Type} {s : Bytes} {T : α → List Tk} {i j k : Int} (hT : ∀ x, ∃ l, T x = .op :: l) {l : List α} (hi : 0 ≤ i) (h : Toks s i (l.flatMap T) j) (hk : nextT s j = (0, .cl, k)) : l.length ≤ fuel s := by
 have h1 := toks_gt h;have h2 := (lex_in hk).2;have h3 := flat_len hT l;unfold fuel;omega
theorem step_fwd {s : Bytes} {i j : Int} {x : St} (hx : small x.1 ∧ small x.2) (h : Toks s i (stepT x) j) : stepP s ⟨i, 0⟩ = (x, ⟨j, 0⟩) := by
 obtain ⟨k1, h1, k2, h2, k3, h3, k4, h4, h5⟩ := h;cases h5;unfold stepP;rw [rOp_fwd h1, rInt_fwd h2 hx.1, rInt_fwd h3 hx.2, rCl_fwd h4]
theorem steps_fwd {s : Bytes} {j k : Int} (hk : nextT s j = (0, .cl, k)) : ∀ (l : List St) (n : Nat) (i : Int), (∀ x ∈ l, small x.1 ∧ small x.2) → Toks s i (l.flatMap stepT) j → l.length ≤ n → stepsP s n ⟨i, 0⟩ = (l, ⟨j, 0⟩) := by
 intro l
 induction l with
 | nil =>
  intro n i _ h _;cases h;cases n with
  | zero => rfl
  | succ n => rw [stepsP, goOn_cl hk]; rfl
 | cons x l ih =>
  intro n i hx h hn;obtain ⟨n, rfl⟩ : ∃ m, n = m + 1 := ⟨n - 1, by simp at hn; omega⟩;rw [List.flatMap_cons] at h;obtain ⟨m, h1, h2⟩ := toks_append.1 h;have h3 := step_fwd (hx x (by simp)) h1;obtain ⟨k1, h4, _⟩ := h1;rw [stepsP, if_pos (goOn_op h4), h3, if_pos rfl];show (x :: (stepsP s n ⟨m, 0⟩).1, (stepsP s n ⟨m, 0⟩).2) = _
  rw [ih n m (fun y hy => hx y (by simp [hy])) h2 (by simp at hn; omega)]
theorem stepT_op (x : St) : ∃ l, stepT x = .op :: l := ⟨_, rfl⟩
theorem bid_fwd {s : Bytes} {i j : Int} {b : Bd} (hb : bidE 6 b = 0) (h : Toks s i (bidT b) j) : bidP s i = (0, b, j) := by
 obtain ⟨_, hs, _, hq⟩ := bidE_sm (by decide) hb;obtain ⟨k1, h1, k2, h2, k3, h3, h4⟩ := h;obtain ⟨k4, h5, k5, h6, h7⟩ := toks_append.1 h4;cases h7;have e : bidR s i = (b, ⟨j, 0⟩) := by
  unfold bidR;rw [rOp_fwd h1, rWord_fwd h2, rInt_fwd h3 hs];show ((⟨b.bus, (stepsP s (fuel s) ⟨k3, 0⟩).1⟩ : Bd), rTok s 2 (stepsP s (fuel s) ⟨k3, 0⟩).2) = _
  rw [steps_fwd h6 b.steps (fuel s) k3 hq h5 (fuel_ok stepT_op (by have := (lex_in h3).1; have := (next_gt s k2 (by rw [h3])).2.2; rw [h3] at this; exact Int.le_of_lt (Int.lt_of_le_of_lt (lex_in h3).1 this)) h5 h6)];show (b, rTok s 2 ⟨k4, 0⟩) = _
  rw [rCl_fwd h6]
 unfold bidP fin;rw [e];simp [hb]
theorem lex_lt {s : Bytes} {i k : Int} {t : Tk} (h : nextT s i = (0, t, k)) : 0 ≤ k := by
 have h1 := next_gt s i (by rw [h]);rw [h] at h1;have h2 : i < k := h1.2.2;omega
theorem unit_fwd {s : Bytes} {i j : Int} {u : Un} (hu : unitE 6 u = 0) (h : Toks s i (unitT u) j) : unitP s i = (0, u, j) := by
 obtain ⟨_, hs, _, hq⟩ := unitE_sm (by decide) hu;obtain ⟨k1, h1, k2, h2, k3, h3, k4, h4, k5, h5, k6, h6, k7, h7, k8, h8, k9, h9, k10, h10, h11⟩ := h;obtain ⟨k11, h12, k12, h13, h14⟩ := toks_append.1 (show Toks s k10 (u.steps.flatMap stepT ++ [.cl]) j from h11);cases h14;have m : ∀ n, n ∈ unNums u → small n := hs;have e : unitR s i = (u, ⟨j, 0⟩) := by
  unfold unitR;rw [rOp_fwd h1, rWord_fwd h2, rInt_fwd h3 (m _ (by simp [unNums]))];simp only [rInt_fwd h4 (m _ (by simp [unNums])), rInt_fwd h5 (m _ (by simp [unNums])), rInt_fwd h6 (m _ (by simp [unNums])), rInt_fwd h7 (m _ (by simp [unNums])), rInt_fwd h8 (m _ (by simp [unNums])), rInt_fwd h9 (m _ (by simp [unNums])), rInt_fwd h10 (m _ (by simp [unNums]))];rw [steps_fwd h13 u.steps (fuel s) k10 hq h12 (fuel_ok stepT_op (lex_lt h10) h12 h13)];simp only [rCl_fwd h13]
 unfold unitP fin;rw [e];simp [hu]
theorem line_fwd {s : Bytes} {i j : Int} {x : Ln} (hx : small x.1 ∧ small x.2.1 ∧ small x.2.2.1 ∧ small x.2.2.2) (h : Toks s i (lineT x) j) : lineR s ⟨i, 0⟩ = (x, ⟨j, 0⟩) := by
 obtain ⟨k1, h1, k2, h2, k3, h3, k4, h4, k5, h5, k6, h6, k7, h7, h8⟩ := h;cases h8;unfold lineR;rw [rOp_fwd h1, rWord_fwd h2, rInt_fwd h3 hx.1];simp only [rInt_fwd h4 hx.2.1, rInt_fwd h5 hx.2.2.1, rInt_fwd h6 hx.2.2.2, rCl_fwd h7]
theorem lines_fwd {s : Bytes} {j k : Int} (hk : nextT s j = (0, .cl, k)) : ∀ (l : List Ln) (n : Nat) (i : Int), (∀ x ∈ l, small x.1 ∧ small x.2.1 ∧ small x.2.2.1 ∧ small x.2.2.2) → Toks s i (l.flatMap lineT) j → l.length ≤ n → linesP s n ⟨i, 0⟩ = (l, ⟨j, 0⟩) := by
 intro l
 induction l with
 | nil =>
  intro n i _ h _;cases h;cases n with
  | zero => rfl
  | succ n => rw [linesP, goOn_cl hk]; rfl
 | cons x l ih =>
  intro n i hx h hn;obtain ⟨n, rfl⟩ : ∃ m, n = m + 1 := ⟨n - 1, by simp at hn; omega⟩;rw [List.flatMap_cons] at h;obtain ⟨m, h1, h2⟩ := toks_append.1 h;have h3 := line_fwd (hx x (by simp)) h1;obtain ⟨k1, h4, _⟩ := h1;rw [linesP, if_pos (goOn_op h4), h3];show (x :: (linesP s n ⟨m, 0⟩).1, (linesP s n ⟨m, 0⟩).2) = _
  rw [ih n m (fun y hy => hx y (by simp [hy])) h2 (by simp at hn; omega)]
theorem net_fwd {s : Bytes} {i j : Int} {x : Nt} (hx : checkE x.buses x.lines = 0) (h : Toks s i (netT x) j) : netP s i = (0, x, j) := by
 obtain ⟨hb1, hb2, _, hq⟩ := checkE_sm hx;have hs : small x.buses := by unfold small; omega
 obtain ⟨k1, h1, k2, h2, k3, h3, h4⟩ := h;obtain ⟨k4, h5, k5, h6, h7⟩ := toks_append.1 h4;cases h7;have e : netR s i = (x, ⟨j, 0⟩) := by
  unfold netR;rw [rOp_fwd h1, rWord_fwd h2, rInt_fwd h3 hs];show ((⟨x.buses, (linesP s (fuel s) ⟨k3, 0⟩).1⟩ : Nt), rTok s 2 (linesP s (fuel s) ⟨k3, 0⟩).2) = _
  rw [lines_fwd h6 x.lines (fuel s) k3 hq h5 (fuel_ok (fun x => ⟨_, rfl⟩) (lex_lt h3) h5 h6)];show (x, rTok s 2 ⟨k4, 0⟩) = _
  rw [rCl_fwd h6]
 unfold netP fin;rw [e];simp [hx]
def OgOk (o : Og) : Prop := (o.1 = 1 ∨ o.1 = 2 ∨ o.1 = 3) ∧ ogValid o = true
theorem OgOk.small {o : Og} (h : OgOk o) : small o.2.1 ∧ small o.2.2.1 ∧ small o.2.2.2 := by
 have h1 := h.2;unfold ogValid at h1;simp only [Bool.and_eq_true, decide_eq_true_eq] at h1;unfold Go.Proofs.YtkfhpefmmhljmaaGreatDoor.small;split at h1 <;> omega
theorem kind_fwd {s : Bytes} {i k : Int} {q : Int} (hq : q = 1 ∨ q = 2 ∨ q = 3) (h : nextT s i = (0, .wd (kindW q), k)) : kindR s ⟨i, 0⟩ = (q, ⟨k, 0⟩) := by
 unfold kindR;rw [show rTok s 3 ⟨i, 0⟩ = ⟨k, 0⟩ from rTok_fwd h, if_neg (by simp)];show (if kindOf (tkText (expT s i 3).2.1) = 0 then _ else (kindOf (tkText (expT s i 3).2.1), _)) = _
 rw [show expT s i 3 = (0, .wd (kindW q), k) from expT_fwd h];have e : kindOf (kindW q) = q := by rcases hq with rfl | rfl | rfl <;> decide
 show (if kindOf (kindW q) = 0 then _ else (kindOf (kindW q), _)) = _
 rw [e, if_neg (by omega)]
theorem out_fwd {s : Bytes} {i j : Int} {o : Og} (ho : OgOk o) (h : Toks s i (outT o) j) : outP s i = (0, o, j) := by
 obtain ⟨k1, h1, k2, h2, k3, h3, k4, h4, k5, h5, k6, h6, h7⟩ := h;cases h7;have e : outR s i = (o, ⟨j, 0⟩) := by
  unfold outR;rw [rOp_fwd h1, kind_fwd ho.1 h2];simp only [rInt_fwd h3 ho.small.1, rInt_fwd h4 ho.small.2.1, rInt_fwd h5 ho.small.2.2, rCl_fwd h6]
 unfold outP fin;rw [e];simp [ho.2]
theorem right_fwd {s : Bytes} {i j : Int} {r : Rt} (hr : small r.1 ∧ small r.2.1 ∧ small r.2.2) (h : Toks s i (rightT r) j) : rightP s i = (0, r, j) := by
 obtain ⟨k1, h1, k2, h2, k3, h3, k4, h4, k5, h5, k6, h6, h7⟩ := h;cases h7;have e : rightR s i = (r, ⟨j, 0⟩) := by
  unfold rightR;rw [rOpen_fwd h1 h2, rInt_fwd h3 hr.1];simp only [rInt_fwd h4 hr.2.1, rInt_fwd h5 hr.2.2, rCl_fwd h6]
 unfold rightP fin;rw [e];simp
def Ans {α : Type} (s : Bytes) (T : α → List Tk) (p : Int → Int × α × Int) (x : α) : Prop := ∀ i j, Toks s i (T x) j → p i = (0, x, j)
theorem one_fwd {α : Type} {s : Bytes} {T : α → List Tk} {p : Int → Int × α × Int} {z x : α} (hp : Ans s T p x) {i j : Int} (h : Toks s i (T x) j) : oneP z p ⟨i, 0⟩ = (x, ⟨j, 0⟩) := by
 unfold oneP;rw [if_neg (by simp)];show ((p i).2.1, rMove ⟨i, 0⟩ (p i).1 (p i).2.2) = _
 rw [hp i j h];rfl
theorem many_fwd {α : Type} {s : Bytes} {T : α → List Tk} {p : Int → Int × α × Int} {z : α} (hT : ∀ x, ∃ l, T x = .op :: l) {j k : Int} (hk : nextT s j = (0, .cl, k)) :
  ∀ (l : List α) (n : Nat) (i : Int), (∀ x ∈ l, Ans s T p x) → Toks s i (l.flatMap T) j → l.length ≤ n → manyP s z p n ⟨i, 0⟩ = (l, ⟨j, 0⟩) := by
 intro l
 induction l with
 | nil =>
  intro n i _ h _;cases h;cases n with
  | zero => rfl
  | succ n => rw [manyP, goOn_cl hk]; rfl
 | cons x l ih =>
  intro n i hx h hn;obtain ⟨n, rfl⟩ : ∃ m, n = m + 1 := ⟨n - 1, by simp at hn; omega⟩;rw [List.flatMap_cons] at h;obtain ⟨m, h1, h2⟩ := toks_append.1 h;have h3 : oneP z p ⟨i, 0⟩ = (x, ⟨m, 0⟩) := one_fwd (hx x (by simp)) h1;obtain ⟨tl, ht⟩ := hT x;rw [ht] at h1;obtain ⟨k1, h4, _⟩ := h1;rw [manyP, if_pos (goOn_op h4), h3];show (x :: (manyP s z p n ⟨m, 0⟩).1, (manyP s z p n ⟨m, 0⟩).2) = _
  rw [ih n m (fun y hy => hx y (by simp [hy])) h2 (by simp at hn; omega)]
theorem list_fwd {α : Type} {s : Bytes} {T : α → List Tk} {p : Int → Int × α × Int} {z : α} {y : Bytes} (hT : ∀ x, ∃ l, T x = .op :: l) {l : List α} {i j : Int} (hl : ∀ x ∈ l, Ans s T p x) (h : Toks s i (listT y T l) j) : listP s y z p ⟨i, 0⟩ = (l, ⟨j, 0⟩) := by
 unfold listT at h;rw [List.append_assoc] at h;obtain ⟨k2, ⟨k1, h1, k2', h2, rfl⟩, h3⟩ := toks_append.1 h;obtain ⟨k3, h4, k4, h5, h6⟩ := toks_append.1 h3;cases h6;unfold listP;rw [rOpen_fwd h1 h2, many_fwd hT h5 l (fuel s) k2' hl h4 (fuel_ok hT (lex_lt h2) h4 h5)];show (l, rTok s 2 ⟨k3, 0⟩) = _
 rw [rCl_fwd h5]
theorem hour_fwd {s : Bytes} {i j : Int} {h : Hr} (hb : ∀ b ∈ h.bids, bidE 6 b = 0) (hr : ∀ b ∈ h.real, bidE 6 b = 0) (hn : small h.need) (ht : Toks s i (hourT h) j) : hourP s i = (0, h, j) := by
 unfold hourT at ht;obtain ⟨k6, h1, h2⟩ := toks_append.1 ht;obtain ⟨k5, h3, h4⟩ := toks_append.1 h1;obtain ⟨k4, h5, h6⟩ := toks_append.1 h3;obtain ⟨k3, ⟨m1, h7, m2, h8, rfl⟩, ⟨m3, h9, rfl⟩⟩ := toks_append.1 h5;obtain ⟨m4, h10, rfl⟩ := h2;have e : hourR s i = (h, ⟨m4, 0⟩) := by
  unfold hourR;rw [rOpen_fwd h7 h8, rInt_fwd h9 hn];simp only [];rw [list_fwd (fun x => ⟨_, rfl⟩) (fun b hb' => fun i j => bid_fwd (hb b hb')) h6];simp only [];rw [list_fwd (fun x => ⟨_, rfl⟩) (fun b hb' => fun i j => bid_fwd (hr b hb')) h4];simp only [rCl_fwd h10]
 unfold hourP fin;rw [e];simp
theorem case_fwd {s : Bytes} {i j : Int} {x : Cs} (hx : dayE x = 0) (h : Toks s i (caseT x) j) : caseP s i = (0, x, j) := by
 have ok := dayE_ok hx;have hn6 : x.net.buses ≤ 6 := (checkE_sm ok.net).2.1;unfold caseT at h;obtain ⟨k6, h1, h2⟩ := toks_append.1 h;obtain ⟨k5, h3, h4⟩ := toks_append.1 h1;obtain ⟨k4, h5, h6⟩ := toks_append.1 h3;obtain ⟨k3, h7, h8⟩ := toks_append.1 h5;obtain ⟨k2, h9, h10⟩ := toks_append.1 h7;obtain ⟨k1, ⟨m1, h11, m2, h12, rfl⟩, h13⟩ := toks_append.1 h9;obtain ⟨m4, h14, rfl⟩ := h2;have e : caseR s i = (x, ⟨m4, 0⟩) := by
  unfold caseR;rw [rOpen_fwd h11 h12, one_fwd (fun i j => net_fwd ok.net) h13];simp only [];rw [list_fwd (fun x => ⟨_, rfl⟩) (fun u hu => fun i j => unit_fwd (unitE_sm hn6 (ok.us u hu)).1) h10];simp only [];rw [list_fwd (fun x => ⟨_, rfl⟩) (fun y hy => fun i j => hour_fwd (fun b hb => (bidE_sm hn6 ((ok.hs y hy).a b hb)).1) (fun b hb => (bidE_sm hn6 ((ok.hs y hy).b b hb)).1) (ok.hs y hy).e) h8];simp only [];rw [list_fwd (fun x => ⟨_, rfl⟩) (fun y hy => fun i j => out_fwd (ok.os y hy)) h6];simp only [];rw [list_fwd (fun x => ⟨_, rfl⟩) (fun y hy => fun i j => right_fwd (ok.rs y hy)) h4];simp only [rCl_fwd h14]
 unfold caseP fin;rw [e];simp [hx]
end Go.Proofs.YtkfhpefmmhljmaaGreatDoor
