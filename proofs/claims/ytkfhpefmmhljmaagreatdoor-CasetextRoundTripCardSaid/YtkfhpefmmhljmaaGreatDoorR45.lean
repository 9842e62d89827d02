/- Texts in one: LxP, LxQ. -/
import Derived.Test.YtkfhpefmmhljmaaGreatDoorR44
set_option linter.unusedVariables false
set_option linter.unusedSimpArgs false
set_option maxHeartbeats 16000000
namespace Go.Proofs.YtkfhpefmmhljmaaGreatDoor
def Toks (s : Bytes) : Int → List Tk → Int → Prop
 | i, [], j => i = j
 | i, t :: l, j => ∃ k, nextT s i = (0, t, k) ∧ Toks s k l j
theorem zP {s : Bytes} : ∀ {a b : List Tk} {i j : Int}, Toks s i (a ++ b) j ↔ ∃ k, Toks s i a k ∧ Toks s k b j := by
 intro a
 induction a with
 | nil => intro b i j; exact ⟨fun h => ⟨i, rfl, h⟩, fun ⟨k, h1, h2⟩ => by cases h1; exact h2⟩
 | cons t a ih =>
  intro b i j;constructor
  ·rintro ⟨k, h1, h2⟩;obtain ⟨m, h3, h4⟩ := ih.1 h2;exact ⟨m, ⟨k, h1, h3⟩, h4⟩
  ·rintro ⟨m, ⟨k, h1, h3⟩, h4⟩;exact ⟨k, h1, ih.2 ⟨m, h3, h4⟩⟩
theorem zAd {s : Bytes} : ∀ {a : List Tk} {i j : Int}, Toks s i a j → i + a.length ≤ j := by
 intro a
 induction a with
 | nil => intro i j h; cases h; simp
 | cons t a ih =>
  rintro i j ⟨k, h1, h2⟩;have h3 := ih h2;have h4 := (uE s i (by rw [h1])).2.2;rw [h1] at h4;rw [κc]
  push_cast
  show i + (a.length + 1 : Int) ≤ j
  replace h4 : i < k := h4;omega
theorem gT {s : Bytes} {k : Int} {rd : Rd} (h : (rTok s k rd).e = 0) : rd.e = 0 ∧ ∃ t, nextT s rd.i = (0, t, (rTok s k rd).i) ∧ zT t = k := by
 by_cases he : rd.e ≠ 0
 ·rw [rTok, if_pos he] at h; exact absurd h he
 have he' : rd.e = 0 := Decidable.not_not.1 he;rw [rTok, if_neg he] at h ⊢;unfold rMove at h ⊢;by_cases h1 : (expT s rd.i k).1 = 0
 ·rw [if_pos h1];obtain ⟨h2, h3, h4⟩ := pO h1;refine ⟨he', (nextT s rd.i).2.1, ?_, h4⟩;rw [h3];show _ = (0, (nextT s rd.i).2.1, (nextT s rd.i).2.2)
  rw [← h2]
 ·rw [if_neg h1] at h; exact absurd h h1
def Run (s : Bytes) (l : List Tk) (rd rd' : Rd) : Prop := rd'.e = 0 → rd.e = 0 ∧ Toks s rd.i l rd'.i
theorem Run.refl {s : Bytes} {rd : Rd} : Run s [] rd rd := fun h => ⟨h, rfl⟩
theorem Run.trans {s : Bytes} {l m : List Tk} {a b c : Rd} (h : Run s l a b) (k : Run s m b c) : Run s (l ++ m) a c := fun h0 => by
 obtain ⟨h1, h2⟩ := k h0;obtain ⟨h3, h4⟩ := h h1;exact ⟨h3, zP.2 ⟨_, h4, h2⟩⟩
theorem gR (s : Bytes) (rd : Rd) : Run s [.op] rd (rTok s 1 rd) := fun h => by
 obtain ⟨h1, t, h2, h3⟩ := gT h;have : t = .op := by cases t <;> first | rfl | (simp [zT] at h3)
 subst this;exact ⟨h1, _, h2, rfl⟩
theorem kO (s : Bytes) (rd : Rd) : Run s [.cl] rd (rTok s 2 rd) := fun h => by
 obtain ⟨h1, t, h2, h3⟩ := gT h;have : t = .cl := by cases t <;> first | rfl | (simp [zT] at h3)
 subst this;exact ⟨h1, _, h2, rfl⟩
theorem yL (s : Bytes) (y : Bytes) (rd : Rd) : Run s [.wd y] rd (rWord s y rd) := fun h => by
 by_cases he : rd.e ≠ 0
 ·rw [rWord, if_pos he] at h; exact absurd h he
 have he' : rd.e = 0 := Decidable.not_not.1 he;rw [rWord, if_neg he] at h ⊢;unfold rMove at h ⊢;by_cases h1 : (expW s rd.i y).1 = 0
 ·rw [if_pos h1];refine ⟨he', (expW s rd.i y).2, ?_, rfl⟩;unfold expW at h1 ⊢;by_cases h2 : (expT s rd.i 3).1 ≠ 0
  ·rw [if_pos h2] at h1; exact absurd h1 h2
  rw [if_neg h2] at h1 ⊢;by_cases h3 : qO (expT s rd.i 3).2.1 ≠ y
  ·rw [if_pos h3] at h1; cases h1
  rw [if_neg h3];obtain ⟨h4, h5, h6⟩ := pO (Decidable.not_not.1 h2);have h3' := Decidable.not_not.1 h3;rw [h5] at h3' ⊢;have h7 : (nextT s rd.i).2.1 = .wd y := by
   cases h8 : (nextT s rd.i).2.1 with
   | wd t => rw [h8] at h3'; exact congrArg Tk.wd h3'
   | op => rw [h8] at h6; simp [zT] at h6
   | cl => rw [h8] at h6; simp [zT] at h6
   | nm n => rw [h8] at h6; simp [zT] at h6
  show nextT s rd.i = (0, .wd y, (nextT s rd.i).2.2)
  rw [← h7, ← h4]
 ·rw [if_neg h1] at h; exact absurd h h1
theorem qK (s : Bytes) (rd : Rd) : Run s [.nm (rInt s rd).1] rd (rInt s rd).2 := fun h => by
 by_cases he : rd.e ≠ 0
 ·rw [rInt, if_pos he] at h; exact absurd h he
 have he' : rd.e = 0 := Decidable.not_not.1 he;rw [rInt, if_neg he] at h ⊢;unfold rMove at h ⊢;by_cases h1 : (expI s rd.i).1 = 0
 ·simp only [if_pos h1];refine ⟨he', (expI s rd.i).2.2, ?_, rfl⟩;unfold expI at h1 ⊢;by_cases h2 : (expT s rd.i 4).1 ≠ 0
  ·rw [if_pos h2] at h1; exact absurd h1 h2
  rw [if_neg h2] at h1 ⊢;by_cases h3 : (!i64In (tkNum (expT s rd.i 4).2.1)) = true
  ·rw [if_pos h3] at h1; cases h1
  rw [if_neg h3];obtain ⟨h4, h5, h6⟩ := pO (Decidable.not_not.1 h2);rw [h5];have h7 : (nextT s rd.i).2.1 = .nm (tkNum (nextT s rd.i).2.1) := by
   cases h8 : (nextT s rd.i).2.1 with
   | nm n => rfl
   | op => rw [h8] at h6; simp [zT] at h6
   | cl => rw [h8] at h6; simp [zT] at h6
   | wd n => rw [h8] at h6; simp [zT] at h6
  show nextT s rd.i = (0, .nm (tkNum (nextT s rd.i).2.1), (nextT s rd.i).2.2)
  rw [← h7, ← h4]
 ·simp only [if_neg h1] at h; exact absurd h h1
theorem gE (s : Bytes) (y : Bytes) (rd : Rd) : Run s [.op, .wd y] rd (rOpen s y rd) := (gR s rd).trans (yL s y _)
theorem iZ (s : Bytes) (rd : Rd) : Run s (stepT (stepP s rd).1) rd (stepP s rd).2 := (((gR s rd).trans (qK s _)).trans (qK s _)).trans (kO s _)
theorem mE (s : Bytes) : ∀ (n : Nat) (rd : Rd), Run s ((zX s n rd).1.flatMap stepT) rd (zX s n rd).2 := by
 intro n
 induction n with
 | zero => intro rd; exact Run.refl
 | succ n ih =>
  intro rd h;rw [zX] at h ⊢;by_cases h1 : goOn s rd = true
  ·rw [if_pos h1] at h ⊢;by_cases h2 : (stepP s rd).2.e = 0
   ·rw [if_pos h2] at h ⊢;exact ((iZ s rd).trans (ih _)) h
   ·rw [if_neg h2] at h;exact absurd (ih _ h).1 h2
  ·rw [if_neg h1] at h ⊢;exact Run.refl h
theorem rO (s : Bytes) (i : Int) : Run s (bidT (bidR s i).1) ⟨i, 0⟩ (bidR s i).2 :=
 ((((gR s _).trans (yL s _ _)).trans (qK s _)).trans (mE s _ _)).trans (kO s _)
theorem iY (s : Bytes) (i : Int) : Run s (unitT (unitR s i).1) ⟨i, 0⟩ (unitR s i).2 :=
 ((((((((((((gR s _).trans (yL s _ _)).trans (qK s _)).trans (qK s _)).trans (qK s _)).trans (qK s _)).trans (qK s _)).trans (qK s _)).trans (qK s _)).trans (qK s _)).trans (mE s _ _)).trans (kO s _))
theorem lB (s : Bytes) (rd : Rd) : Run s (lineT (lineR s rd).1) rd (lineR s rd).2 :=
 ((((((gR s rd).trans (yL s _ _)).trans (qK s _)).trans (qK s _)).trans (qK s _)).trans (qK s _)).trans (kO s _)
theorem rN (s : Bytes) : ∀ (n : Nat) (rd : Rd), Run s ((qR s n rd).1.flatMap lineT) rd (qR s n rd).2 := by
 intro n
 induction n with
 | zero => intro rd; exact Run.refl
 | succ n ih =>
  intro rd h;rw [qR] at h ⊢;by_cases h1 : goOn s rd = true
  ·rw [if_pos h1] at h ⊢;exact ((lB s rd).trans (ih _)) h
  ·rw [if_neg h1] at h ⊢;exact Run.refl h
theorem zAq (s : Bytes) (i : Int) : Run s (netT (netR s i).1) ⟨i, 0⟩ (netR s i).2 :=
 ((((gR s _).trans (yL s _ _)).trans (qK s _)).trans (rN s _ _)).trans (kO s _)
theorem lC (s : Bytes) (rd : Rd) : Run s [.wd (kindW (kindR s rd).1)] rd (kindR s rd).2 := fun h => by
 unfold kindR at h ⊢;by_cases h1 : (rTok s 3 rd).e ≠ 0
 ·rw [if_pos h1] at h; exact absurd h h1
 rw [if_neg h1] at h ⊢;by_cases h2 : jM (qO (expT s rd.i 3).2.1) = 0
 ·rw [if_pos h2] at h; cases h
 rw [if_neg h2] at h ⊢;obtain ⟨h3, t, h4, h5⟩ := gT h;refine ⟨h3, _, ?_, rfl⟩;rw [h4];have h6 : expT s rd.i 3 = (0, t, (rTok s 3 rd).i) := by
  unfold expT;rw [h4];simp [h5]
 rw [h6] at h2;rw [h6];cases t with
 | wd t =>
  replace h2 : ¬ jM t = 0 := h2;show (0, Tk.wd t, _) = (0, Tk.wd (kindW (jM t)), _)
  have : kindW (jM t) = t := by
   unfold jM at h2 ⊢;by_cases k1 : t = [112, 108, 97, 110]
   ·rw [if_pos k1, k1]; rfl
   rw [if_neg k1] at h2 ⊢;by_cases k2 : t = [108, 111, 115, 115]
   ·rw [if_pos k2, k2]; rfl
   rw [if_neg k2] at h2 ⊢;by_cases k3 : t = [116, 114, 105, 112]
   ·rw [if_pos k3, k3]; rfl
   rw [if_neg k3] at h2;exact absurd rfl h2
  rw [this]
 | op => simp [zT] at h5
 | cl => simp [zT] at h5
 | nm n => simp [zT] at h5
theorem zAp (s : Bytes) (i : Int) : Run s (outT (outR s i).1) ⟨i, 0⟩ (outR s i).2 :=
 (((((gR s _).trans (lC s _)).trans (qK s _)).trans (qK s _)).trans (qK s _)).trans (kO s _)
def dB (r : Rt) : List Tk := [.op, .wd [114, 105, 103, 104, 116], .nm r.1, .nm r.2.1, .nm r.2.2, .cl]
theorem rL (s : Bytes) (i : Int) : Run s (dB (uP s i).1) ⟨i, 0⟩ (uP s i).2 :=
 ((((gE s _ _).trans (qK s _)).trans (qK s _)).trans (qK s _)).trans (kO s _)
def Rdg {α : Type} (s : Bytes) (T : α → List Tk) (p : Int → Int × α × Int) : Prop := ∀ i, (p i).1 = 0 → Toks s i (T (p i).2.1) (p i).2.2
theorem vV {α : Type} {s : Bytes} {T : α → List Tk} {z : α} {chk : α → Int} {f : Int → α × Rd} (h : ∀ i, Run s (T (f i).1) ⟨i, 0⟩ (f i).2) : Rdg s T (fun i => fin z chk (f i)) := fun i h0 => by
 replace h0 : (fin z chk (f i)).1 = 0 := h0;show Toks s i (T (fin z chk (f i)).2.1) (fin z chk (f i)).2.2
 unfold fin at h0 ⊢;by_cases h1 : (f i).2.e ≠ 0
 ·rw [if_pos h1] at h0; exact absurd h0 h1
 rw [if_neg h1] at h0 ⊢;by_cases h2 : chk (f i).1 ≠ 0
 ·rw [if_pos h2] at h0; exact absurd h0 h2
 rw [if_neg h2];exact (h i (Decidable.not_not.1 h1)).2
theorem rM {α : Type} {s : Bytes} {T : α → List Tk} {p : Int → Int × α × Int} (z : α) (hp : Rdg s T p) (rd : Rd) : Run s (T (oneP z p rd).1) rd (oneP z p rd).2 := fun h => by
 unfold oneP at h ⊢;by_cases h1 : rd.e ≠ 0
 ·rw [if_pos h1] at h; exact absurd h h1
 rw [if_neg h1] at h ⊢;have h1' := Decidable.not_not.1 h1;unfold rMove at h ⊢;by_cases h2 : (p rd.i).1 = 0
 ·rw [if_pos h2]; exact ⟨h1', hp _ h2⟩
 ·rw [if_neg h2] at h; exact absurd h h2
theorem lA {α : Type} {s : Bytes} {T : α → List Tk} {p : Int → Int × α × Int} (z : α) (hp : Rdg s T p) : ∀ (n : Nat) (rd : Rd), Run s ((manyP s z p n rd).1.flatMap T) rd (manyP s z p n rd).2 := by
 intro n
 induction n with
 | zero => intro rd; exact Run.refl
 | succ n ih =>
  intro rd h;rw [manyP] at h ⊢;by_cases h1 : goOn s rd = true
  ·rw [if_pos h1] at h ⊢;exact ((rM z hp rd).trans (ih _)) h
  ·rw [if_neg h1] at h ⊢;exact Run.refl h
def listT {α : Type} (y : Bytes) (T : α → List Tk) (l : List α) : List Tk := [.op, .wd y] ++ l.flatMap T ++ [.cl]
theorem kI {α : Type} {s : Bytes} {T : α → List Tk} {p : Int → Int × α × Int} (y : Bytes) (z : α) (hp : Rdg s T p) (rd : Rd) : Run s (listT y T (listP s y z p rd).1) rd (listP s y z p rd).2 :=
 ((gE s y rd).trans (lA z hp _ _)).trans (kO s _)
def hourT (h : Hr) : List Tk := [.op, .wd [104, 111, 117, 114]] ++ [.nm h.need] ++ listT [98, 105, 100, 115] bidT h.bids ++ listT [114, 101, 97, 108] bidT h.real ++ [.cl]
theorem lD (s : Bytes) (i : Int) : Run s (hourT (hourR s i).1) ⟨i, 0⟩ (hourR s i).2 :=
 ((((gE s _ _).trans (qK s _)).trans (kI _ _ (vV (rO s)) _)).trans (kI _ _ (vV (rO s)) _)).trans (kO s _)
def caseT (x : Cs) : List Tk := [.op, .wd [99, 97, 115, 101]] ++ netT x.net ++ listT [117, 110, 105, 116, 115] unitT x.units ++ listT [104, 111, 117, 114, 115] hourT x.hours ++ listT [111, 117, 116, 97, 103, 101, 115] outT x.outs ++ listT [114, 105, 103, 104, 116, 115] dB x.rights ++ [.cl]
theorem lE (s : Bytes) (i : Int) : Run s (caseT (caseR s i).1) ⟨i, 0⟩ (caseR s i).2 :=
 ((((((gE s _ _).trans (rM _ (vV (zAq s)) _)).trans (kI _ _ (vV (iY s)) _)).trans (kI _ _ (vV (lD s)) _)).trans (kI _ _ (vV (zAp s)) _)).trans (kI _ _ (vV (rL s)) _)).trans (kO s _)
theorem tU {s : Bytes} {i : Int} (h : (caseP s i).1 = 0) : Toks s i (caseT (caseP s i).2.1) (caseP s i).2.2 ∧ dayE (caseP s i).2.1 = 0 := by
 refine ⟨vV (z := cs0) (chk := dayE) (lE s) i h, ?_⟩;unfold caseP fin at h ⊢;by_cases h1 : (caseR s i).2.e ≠ 0
 ·rw [if_pos h1] at h; exact absurd h h1
 rw [if_neg h1] at h ⊢;by_cases h2 : dayE (caseR s i).1 ≠ 0
 ·rw [if_pos h2] at h; exact absurd h h2
 rw [if_neg h2];exact Decidable.not_not.1 h2
theorem gG {s : Bytes} {i k : Int} {t : Tk} (h : nextT s i = (0, t, k)) : expT s i (zT t) = (0, t, k) := by
 unfold expT;rw [h];simp
theorem dU {s : Bytes} {i k : Int} {t : Tk} (h : nextT s i = (0, t, k)) : rTok s (zT t) ⟨i, 0⟩ = ⟨k, 0⟩ := by
 unfold rTok;rw [if_neg (by simp)];show rMove _ (expT s i (zT t)).1 (expT s i (zT t)).2.2 = _
 rw [gG h];rfl
theorem kT {s : Bytes} {i k : Int} (h : nextT s i = (0, .op, k)) : rTok s 1 ⟨i, 0⟩ = ⟨k, 0⟩ := dU h
theorem xT {s : Bytes} {i k : Int} (h : nextT s i = (0, .cl, k)) : rTok s 2 ⟨i, 0⟩ = ⟨k, 0⟩ := dU h
theorem vW {s : Bytes} {i k : Int} {y : Bytes} (h : nextT s i = (0, .wd y, k)) : rWord s y ⟨i, 0⟩ = ⟨k, 0⟩ := by
 have e : expW s i y = (0, k) := by
  unfold expW;rw [show expT s i 3 = (0, .wd y, k) from gG h];simp [qO]
 unfold rWord;rw [if_neg (by simp)];show rMove _ (expW s i y).1 (expW s i y).2 = _
 rw [e];rfl
theorem zZ {s : Bytes} {i k n : Int} (h : nextT s i = (0, .nm n, k)) (hn : small n) : rInt s ⟨i, 0⟩ = (n, ⟨k, 0⟩) := by
 have hi : i64In n = true := by
  unfold small at hn;unfold i64In;simp only [κb, κe];omega
 have e : expI s i = (0, n, k) := by
  unfold expI;rw [show expT s i 4 = (0, .nm n, k) from gG h];simp [tkNum, hi]
 unfold rInt;rw [if_neg (by simp)];show ((expI s i).2.1, rMove _ (expI s i).1 (expI s i).2.2) = _
 rw [e];rfl
theorem yN {s : Bytes} {i k m : Int} {y : Bytes} (h : nextT s i = (0, .op, k)) (h2 : nextT s k = (0, .wd y, m)) : rOpen s y ⟨i, 0⟩ = ⟨m, 0⟩ := by
 unfold rOpen;rw [kT h, vW h2]
theorem aA {s : Bytes} {i k : Int} (h : nextT s i = (0, .op, k)) : goOn s ⟨i, 0⟩ = true := by
 unfold goOn peekT;simp [h, zT]
theorem aB {s : Bytes} {i k : Int} (h : nextT s i = (0, .cl, k)) : goOn s ⟨i, 0⟩ = false := by
 unfold goOn peekT;simp [h, zT]
theorem sU {s : Bytes} {i k : Int} {t : Tk} (h : nextT s i = (0, t, k)) : 0 ≤ i ∧ i < s.length := by
 have := uE s i (by rw [h]);exact ⟨this.1, this.2.1⟩
theorem oP {α : Type} {T : α → List Tk} (hT : ∀ x, ∃ l, T x = .op :: l) (l : List α) : l.length ≤ (l.flatMap T).length := by
 induction l with
 | nil => simp
 | cons x l ih =>
  obtain ⟨m, hm⟩ := hT x;rw [List.flatMap_cons, κa, κc, hm, κc];omega
theorem pK {α : Type} {s : Bytes} {T : α → List Tk} {i j k : Int} (hT : ∀ x, ∃ l, T x = .op :: l) {l : List α} (hi : 0 ≤ i) (h : Toks s i (l.flatMap T) j) (hk : nextT s j = (0, .cl, k)) : l.length ≤ fuel s := by
 have h1 := zAd h;have h2 := (sU hk).2;have h3 := oP hT l;unfold fuel;omega
theorem iN {s : Bytes} {i j : Int} {x : St} (hx : small x.1 ∧ small x.2) (h : Toks s i (stepT x) j) : stepP s ⟨i, 0⟩ = (x, ⟨j, 0⟩) := by
 obtain ⟨k1, h1, k2, h2, k3, h3, k4, h4, h5⟩ := h;cases h5;unfold stepP;rw [kT h1, zZ h2 hx.1, zZ h3 hx.2, xT h4]
theorem pV {s : Bytes} {j k : Int} (hk : nextT s j = (0, .cl, k)) : ∀ (l : List St) (n : Nat) (i : Int), (∀ x ∈ l, small x.1 ∧ small x.2) → Toks s i (l.flatMap stepT) j → l.length ≤ n → zX s n ⟨i, 0⟩ = (l, ⟨j, 0⟩) := by
 intro l
 induction l with
 | nil =>
  intro n i _ h _;cases h;cases n with
  | zero => rfl
  | succ n => rw [zX, aB hk]; rfl
 | cons x l ih =>
  intro n i hx h hn;obtain ⟨n, rfl⟩ : ∃ m, n = m + 1 := ⟨n - 1, by simp at hn; omega⟩;rw [List.flatMap_cons] at h;obtain ⟨m, h1, h2⟩ := zP.1 h;have h3 := iN (hx x (by simp)) h1;obtain ⟨k1, h4, _⟩ := h1;rw [zX, if_pos (aA h4), h3, if_pos rfl];show (x :: (zX s n ⟨m, 0⟩).1, (zX s n ⟨m, 0⟩).2) = _
  rw [ih n m (fun y hy => hx y (by simp [hy])) h2 (by simp at hn; omega)]
theorem aV (x : St) : ∃ l, stepT x = .op :: l := ⟨_, rfl⟩
theorem iA {s : Bytes} {i j : Int} {b : Bd} (hb : bidE 6 b = 0) (h : Toks s i (bidT b) j) : bidP s i = (0, b, j) := by
 obtain ⟨_, hs, _, hq⟩ := jQ (by decide) hb;obtain ⟨k1, h1, k2, h2, k3, h3, h4⟩ := h;obtain ⟨k4, h5, k5, h6, h7⟩ := zP.1 h4;cases h7;have e : bidR s i = (b, ⟨j, 0⟩) := by
  unfold bidR;rw [kT h1, vW h2, zZ h3 hs];show ((⟨b.bus, (zX s (fuel s) ⟨k3, 0⟩).1⟩ : Bd), rTok s 2 (zX s (fuel s) ⟨k3, 0⟩).2) = _
  rw [pV h6 b.steps (fuel s) k3 hq h5 (pK aV (by have := (sU h3).1; have := (uE s k2 (by rw [h3])).2.2; rw [h3] at this; exact Int.le_of_lt (Int.lt_of_le_of_lt (sU h3).1 this)) h5 h6)];show (b, rTok s 2 ⟨k4, 0⟩) = _
  rw [xT h6]
 unfold bidP fin;rw [e];simp [hb]
theorem sT {s : Bytes} {i k : Int} {t : Tk} (h : nextT s i = (0, t, k)) : 0 ≤ k := by
 have h1 := uE s i (by rw [h]);rw [h] at h1;have h2 : i < k := h1.2.2;omega
theorem iG {s : Bytes} {i j : Int} {u : Un} (hu : unitE 6 u = 0) (h : Toks s i (unitT u) j) : unitP s i = (0, u, j) := by
 obtain ⟨_, hs, _, hq⟩ := xD (by decide) hu;obtain ⟨k1, h1, k2, h2, k3, h3, k4, h4, k5, h5, k6, h6, k7, h7, k8, h8, k9, h9, k10, h10, h11⟩ := h;obtain ⟨k11, h12, k12, h13, h14⟩ := zP.1 (show Toks s k10 (u.steps.flatMap stepT ++ [.cl]) j from h11);cases h14;have m : ∀ n, n ∈ jK u → small n := hs;have e : unitR s i = (u, ⟨j, 0⟩) := by
  unfold unitR;rw [kT h1, vW h2, zZ h3 (m _ (by simp [jK]))];simp only [zZ h4 (m _ (by simp [jK])), zZ h5 (m _ (by simp [jK])), zZ h6 (m _ (by simp [jK])), zZ h7 (m _ (by simp [jK])), zZ h8 (m _ (by simp [jK])), zZ h9 (m _ (by simp [jK])), zZ h10 (m _ (by simp [jK]))];rw [pV h13 u.steps (fuel s) k10 hq h12 (pK aV (sT h10) h12 h13)];simp only [xT h13]
 unfold unitP fin;rw [e];simp [hu]
theorem lX {s : Bytes} {i j : Int} {x : Ln} (hx : small x.1 ∧ small x.2.1 ∧ small x.2.2.1 ∧ small x.2.2.2) (h : Toks s i (lineT x) j) : lineR s ⟨i, 0⟩ = (x, ⟨j, 0⟩) := by
 obtain ⟨k1, h1, k2, h2, k3, h3, k4, h4, k5, h5, k6, h6, k7, h7, h8⟩ := h;cases h8;unfold lineR;rw [kT h1, vW h2, zZ h3 hx.1];simp only [zZ h4 hx.2.1, zZ h5 hx.2.2.1, zZ h6 hx.2.2.2, xT h7]
theorem sP {s : Bytes} {j k : Int} (hk : nextT s j = (0, .cl, k)) : ∀ (l : List Ln) (n : Nat) (i : Int), (∀ x ∈ l, small x.1 ∧ small x.2.1 ∧ small x.2.2.1 ∧ small x.2.2.2) → Toks s i (l.flatMap lineT) j → l.length ≤ n → qR s n ⟨i, 0⟩ = (l, ⟨j, 0⟩) := by
 intro l
 induction l with
 | nil =>
  intro n i _ h _;cases h;cases n with
  | zero => rfl
  | succ n => rw [qR, aB hk]; rfl
 | cons x l ih =>
  intro n i hx h hn;obtain ⟨n, rfl⟩ : ∃ m, n = m + 1 := ⟨n - 1, by simp at hn; omega⟩;rw [List.flatMap_cons] at h;obtain ⟨m, h1, h2⟩ := zP.1 h;have h3 := lX (hx x (by simp)) h1;obtain ⟨k1, h4, _⟩ := h1;rw [qR, if_pos (aA h4), h3];show (x :: (qR s n ⟨m, 0⟩).1, (qR s n ⟨m, 0⟩).2) = _
  rw [ih n m (fun y hy => hx y (by simp [hy])) h2 (by simp at hn; omega)]
theorem zBh {s : Bytes} {i j : Int} {x : Nt} (hx : qP x.buses x.lines = 0) (h : Toks s i (netT x) j) : netP s i = (0, x, j) := by
 obtain ⟨hb1, hb2, _, hq⟩ := jN hx;have hs : small x.buses := by unfold small; omega
 obtain ⟨k1, h1, k2, h2, k3, h3, h4⟩ := h;obtain ⟨k4, h5, k5, h6, h7⟩ := zP.1 h4;cases h7;have e : netR s i = (x, ⟨j, 0⟩) := by
  unfold netR;rw [kT h1, vW h2, zZ h3 hs];show ((⟨x.buses, (qR s (fuel s) ⟨k3, 0⟩).1⟩ : Nt), rTok s 2 (qR s (fuel s) ⟨k3, 0⟩).2) = _
  rw [sP h6 x.lines (fuel s) k3 hq h5 (pK (fun x => ⟨_, rfl⟩) (sT h3) h5 h6)];show (x, rTok s 2 ⟨k4, 0⟩) = _
  rw [xT h6]
 unfold netP fin;rw [e];simp [hx]
def OgOk (o : Og) : Prop := (o.1 = 1 ∨ o.1 = 2 ∨ o.1 = 3) ∧ jA o = true
theorem OgOk.small {o : Og} (h : OgOk o) : small o.2.1 ∧ small o.2.2.1 ∧ small o.2.2.2 := by
 have h1 := h.2;unfold jA at h1;simp only [κb, κe] at h1;unfold Go.Proofs.YtkfhpefmmhljmaaGreatDoor.small;split at h1 <;> omega
theorem oA {s : Bytes} {i k : Int} {q : Int} (hq : q = 1 ∨ q = 2 ∨ q = 3) (h : nextT s i = (0, .wd (kindW q), k)) : kindR s ⟨i, 0⟩ = (q, ⟨k, 0⟩) := by
 unfold kindR;rw [show rTok s 3 ⟨i, 0⟩ = ⟨k, 0⟩ from dU h, if_neg (by simp)];show (if jM (qO (expT s i 3).2.1) = 0 then _ else (jM (qO (expT s i 3).2.1), _)) = _
 rw [show expT s i 3 = (0, .wd (kindW q), k) from gG h];have e : jM (kindW q) = q := by rcases hq with rfl | rfl | rfl <;> decide
 show (if jM (kindW q) = 0 then _ else (jM (kindW q), _)) = _
 rw [e, if_neg (by omega)]
theorem zAw {s : Bytes} {i j : Int} {o : Og} (ho : OgOk o) (h : Toks s i (outT o) j) : outP s i = (0, o, j) := by
 obtain ⟨k1, h1, k2, h2, k3, h3, k4, h4, k5, h5, k6, h6, h7⟩ := h;cases h7;have e : outR s i = (o, ⟨j, 0⟩) := by
  unfold outR;rw [kT h1, oA ho.1 h2];simp only [zZ h3 ho.small.1, zZ h4 ho.small.2.1, zZ h5 ho.small.2.2, xT h6]
 unfold outP fin;rw [e];simp [ho.2]
theorem rR {s : Bytes} {i j : Int} {r : Rt} (hr : small r.1 ∧ small r.2.1 ∧ small r.2.2) (h : Toks s i (dB r) j) : xY s i = (0, r, j) := by
 obtain ⟨k1, h1, k2, h2, k3, h3, k4, h4, k5, h5, k6, h6, h7⟩ := h;cases h7;have e : uP s i = (r, ⟨j, 0⟩) := by
  unfold uP;rw [yN h1 h2, zZ h3 hr.1];simp only [zZ h4 hr.2.1, zZ h5 hr.2.2, xT h6]
 unfold xY fin;rw [e];simp
def Ans {α : Type} (s : Bytes) (T : α → List Tk) (p : Int → Int × α × Int) (x : α) : Prop := ∀ i j, Toks s i (T x) j → p i = (0, x, j)
theorem sK {α : Type} {s : Bytes} {T : α → List Tk} {p : Int → Int × α × Int} {z x : α} (hp : Ans s T p x) {i j : Int} (h : Toks s i (T x) j) : oneP z p ⟨i, 0⟩ = (x, ⟨j, 0⟩) := by
 unfold oneP;rw [if_neg (by simp)];show ((p i).2.1, rMove ⟨i, 0⟩ (p i).1 (p i).2.2) = _
 rw [hp i j h];rfl
theorem lT {α : Type} {s : Bytes} {T : α → List Tk} {p : Int → Int × α × Int} {z : α} (hT : ∀ x, ∃ l, T x = .op :: l) {j k : Int} (hk : nextT s j = (0, .cl, k)) :
  ∀ (l : List α) (n : Nat) (i : Int), (∀ x ∈ l, Ans s T p x) → Toks s i (l.flatMap T) j → l.length ≤ n → manyP s z p n ⟨i, 0⟩ = (l, ⟨j, 0⟩) := by
 intro l
 induction l with
 | nil =>
  intro n i _ h _;cases h;cases n with
  | zero => rfl
  | succ n => rw [manyP, aB hk]; rfl
 | cons x l ih =>
  intro n i hx h hn;obtain ⟨n, rfl⟩ : ∃ m, n = m + 1 := ⟨n - 1, by simp at hn; omega⟩;rw [List.flatMap_cons] at h;obtain ⟨m, h1, h2⟩ := zP.1 h;have h3 : oneP z p ⟨i, 0⟩ = (x, ⟨m, 0⟩) := sK (hx x (by simp)) h1;obtain ⟨tl, ht⟩ := hT x;rw [ht] at h1;obtain ⟨k1, h4, _⟩ := h1;rw [manyP, if_pos (aA h4), h3];show (x :: (manyP s z p n ⟨m, 0⟩).1, (manyP s z p n ⟨m, 0⟩).2) = _
  rw [ih n m (fun y hy => hx y (by simp [hy])) h2 (by simp at hn; omega)]
theorem kK {α : Type} {s : Bytes} {T : α → List Tk} {p : Int → Int × α × Int} {z : α} {y : Bytes} (hT : ∀ x, ∃ l, T x = .op :: l) {l : List α} {i j : Int} (hl : ∀ x ∈ l, Ans s T p x) (h : Toks s i (listT y T l) j) : listP s y z p ⟨i, 0⟩ = (l, ⟨j, 0⟩) := by
 unfold listT at h;rw [κq] at h;obtain ⟨k2, ⟨k1, h1, k2', h2, rfl⟩, h3⟩ := zP.1 h;obtain ⟨k3, h4, k4, h5, h6⟩ := zP.1 h3;cases h6;unfold listP;rw [yN h1 h2, lT hT h5 l (fuel s) k2' hl h4 (pK hT (sT h2) h4 h5)];show (l, rTok s 2 ⟨k3, 0⟩) = _
 rw [xT h5]
theorem oF {s : Bytes} {i j : Int} {h : Hr} (hb : ∀ b ∈ h.bids, bidE 6 b = 0) (hr : ∀ b ∈ h.real, bidE 6 b = 0) (hn : small h.need) (ht : Toks s i (hourT h) j) : hourP s i = (0, h, j) := by
 unfold hourT at ht;obtain ⟨k6, h1, h2⟩ := zP.1 ht;obtain ⟨k5, h3, h4⟩ := zP.1 h1;obtain ⟨k4, h5, h6⟩ := zP.1 h3;obtain ⟨k3, ⟨m1, h7, m2, h8, rfl⟩, ⟨m3, h9, rfl⟩⟩ := zP.1 h5;obtain ⟨m4, h10, rfl⟩ := h2;have e : hourR s i = (h, ⟨m4, 0⟩) := by
  unfold hourR;rw [yN h7 h8, zZ h9 hn];simp only [];rw [kK (fun x => ⟨_, rfl⟩) (fun b hb' => fun i j => iA (hb b hb')) h6];simp only [];rw [kK (fun x => ⟨_, rfl⟩) (fun b hb' => fun i j => iA (hr b hb')) h4];simp only [xT h10]
 unfold hourP fin;rw [e];simp
theorem wJ {s : Bytes} {i j : Int} {x : Cs} (hx : dayE x = 0) (h : Toks s i (caseT x) j) : caseP s i = (0, x, j) := by
 have ok := fL hx;have hn6 : x.net.buses ≤ 6 := (jN ok.net).2.1;unfold caseT at h;obtain ⟨k6, h1, h2⟩ := zP.1 h;obtain ⟨k5, h3, h4⟩ := zP.1 h1;obtain ⟨k4, h5, h6⟩ := zP.1 h3;obtain ⟨k3, h7, h8⟩ := zP.1 h5;obtain ⟨k2, h9, h10⟩ := zP.1 h7;obtain ⟨k1, ⟨m1, h11, m2, h12, rfl⟩, h13⟩ := zP.1 h9;obtain ⟨m4, h14, rfl⟩ := h2;have e : caseR s i = (x, ⟨m4, 0⟩) := by
  unfold caseR;rw [yN h11 h12, sK (fun i j => zBh ok.net) h13];simp only [];rw [kK (fun x => ⟨_, rfl⟩) (fun u hu => fun i j => iG (xD hn6 (ok.us u hu)).1) h10];simp only [];rw [kK (fun x => ⟨_, rfl⟩) (fun y hy => fun i j => oF (fun b hb => (jQ hn6 ((ok.hs y hy).a b hb)).1) (fun b hb => (jQ hn6 ((ok.hs y hy).b b hb)).1) (ok.hs y hy).e) h8];simp only [];rw [kK (fun x => ⟨_, rfl⟩) (fun y hy => fun i j => zAw (ok.os y hy)) h6];simp only [];rw [kK (fun x => ⟨_, rfl⟩) (fun y hy => fun i j => rR (ok.rs y hy)) h4];simp only [xT h14]
 unfold caseP fin;rw [e];simp [hx]
end Go.Proofs.YtkfhpefmmhljmaaGreatDoor
