/- The text LxS. -/
import Derived.Test.YtkfhpefmmhljmaaGreatDoorQ47
set_option linter.unusedVariables false
set_option linter.unusedSimpArgs false
/- LxS -/
namespace Go.Proofs.YtkfhpefmmhljmaaGreatDoor
set_option linter.unusedSimpArgs false
theorem tw_app {p : UInt8 → Bool} {r y : Bytes} (hr : r.all p = true) (hy : ∀ c, y.head? = some c → p c = false) : (r ++ y).takeWhile p = r := by
 rw [List.takeWhile_append_of_pos (by rw [List.all_eq_true] at hr; exact hr)];cases y with
 | nil => simp
 | cons c y => rw [List.takeWhile_cons, hy c rfl]; simp
theorem endF_app {p : UInt8 → Bool} {a r y : Bytes} (hr : r.all p = true) (hy : ∀ c, y.head? = some c → p c = false) : endF p (a ++ (r ++ y)) a.length = a.length + r.length := by
 unfold endF;rw [List.drop_left, tw_app hr hy]
theorem runAt_app {a r y : Bytes} (hr : r.all isRun = true) (hy : ∀ c, y.head? = some c → isRun c = false) : runAt (a ++ (r ++ y)) a.length = r := by
 unfold runAt;rw [endF_app hr hy, List.drop_left, Nat.add_sub_cancel_left, List.take_left]
theorem sep_cases {c : UInt8} (h : isSep c = true) : c = 32 ∨ c = 10 := by
 unfold isSep at h;rw [Bool.or_eq_true, beq_iff_eq, beq_iff_eq] at h;exact h
theorem run_sep {c : UInt8} (h : isRun c = true) : isSep c = false ∧ c ≠ 40 ∧ c ≠ 41 := by
 refine ⟨?_, ?_, ?_⟩
 ·cases hs : isSep c with
  | false => rfl
  | true => rcases sep_cases hs with rfl | rfl <;> exact absurd h (by decide)
 ·rintro rfl; exact absurd h (by decide)
 ·rintro rfl; exact absurd h (by decide)
theorem sep_run {c : UInt8} (h : isSep c = true) : isRun c = false := by rcases sep_cases h with rfl | rfl <;> decide
theorem Spl.head {l : List Tk} {x : Bytes} (h : Spl true l x) : ∀ c, x.head? = some c → isRun c = false := by
 cases h with
 | nil _ _ hw =>
  intro c hc;cases x with
  | nil => cases hc
  | cons d w =>
   rw [List.all_cons, Bool.and_eq_true] at hw;simp at hc; subst hc;exact sep_run hw.1
 | cons _ w t l x hw h1 h2 h3 =>
  intro c hc;cases w with
  | cons d w =>
   rw [List.all_cons, Bool.and_eq_true] at hw;simp at hc; subst hc;exact sep_run hw.1
  | nil =>
   cases t with
   | op => simp [tkStr] at hc; subst hc; decide
   | cl => simp [tkStr] at hc; subst hc; decide
   | wd y => exact absurd rfl (h1 rfl rfl)
   | nm n => exact absurd rfl (h1 rfl rfl)
theorem tk_ne {t : Tk} (h : TkSm t) : tkStr t ≠ [] := by
 cases t with
 | op => simp [tkStr]
 | cl => simp [tkStr]
 | wd y =>
  have h1 : allB isLow y = true := h.1;intro e;have e' : y = [] := e;subst e';cases h1
 | nm n =>
  show Lib.itoa n ≠ []
  unfold Lib.itoa;have hd : ∀ m, Lib.decDigits m ≠ [] := fun m e => by
   have := dec_isDec m;rw [e] at this;cases this
  split
  ·simp
  ·exact hd _
theorem tk_head {t : Tk} (h : TkSm t) : ∀ c, (tkStr t).head? = some c → isSep c = false := by
 intro c hc;cases hr : isRn t with
 | true =>
  have h1 := tk_run h hr;rw [List.all_eq_true] at h1;cases hs : tkStr t with
  | nil => rw [hs] at hc; cases hc
  | cons d y =>
   rw [hs] at hc;simp at hc; subst hc;exact (run_sep (h1 d (by rw [hs]; simp))).1
 | false =>
  cases t with
  | op => simp [tkStr] at hc; subst hc; decide
  | cl => simp [tkStr] at hc; subst hc; decide
  | wd y => cases hr
  | nm n => cases hr
theorem dec_len_small {n : Nat} (h : n < 2147483649) : (Lib.decDigits n).length ≤ 10 := dec_len n 10 (by decide) (by omega)
theorem dec_minus (n : Nat) : (Lib.decDigits n).head? ≠ some 45 := by
 intro h;have h1 := dec_all n;rw [List.all_eq_true] at h1;cases hd : Lib.decDigits n with
 | nil => rw [hd] at h; cases h
 | cons d y =>
  rw [hd] at h;simp at h; subst h;exact absurd (h1 45 (by rw [hd]; simp)) (by decide)
theorem pz_itoa {n : Int} (h : small n) : pz (Lib.itoa n) = (0, n) := by
 unfold small at h;unfold Lib.itoa;by_cases h0 : n < 0
 ·rw [if_pos h0];have e1 : isNeg (45 :: Lib.decDigits n.natAbs) = true := rfl;have e2 : magn (45 :: Lib.decDigits n.natAbs) = Lib.decDigits n.natAbs := by unfold magn; rw [e1]; rfl
  unfold pz;rw [e1, e2, if_neg (by have := dec_len_small (n := n.natAbs) (by omega); omega), dec_isDec, dval_dec];have h48 : (Lib.decDigits n.natAbs == [48]) = false := by
   cases hb : (Lib.decDigits n.natAbs == [48]) with
   | false => rfl
   | true =>
    have := eq_of_beq hb;have h2 := dval_dec n.natAbs;rw [this] at h2;have h3 : dval [48] = 0 := by decide
    omega
  rw [h48, if_neg (by decide), if_pos rfl];have : -(n.natAbs : Int) = n := by omega
  rw [this]
 ·rw [if_neg h0];have e1 : isNeg (Lib.decDigits n.toNat) = false := by
   unfold isNeg;cases hb : ((Lib.decDigits n.toNat).head? == some 45) with
   | false => rfl
   | true => exact absurd (eq_of_beq hb) (dec_minus _)
  have e2 : magn (Lib.decDigits n.toNat) = Lib.decDigits n.toNat := by unfold magn; rw [e1]; rfl
  unfold pz;rw [e1, e2, if_neg (by have := dec_len_small (n := n.toNat) (by omega); omega), dec_isDec, dval_dec, if_neg (by simp), if_neg (by decide)];have : (n.toNat : Int) = n := by omega
  rw [this]
theorem dec_slash (n : Nat) : (Lib.decDigits n).any (· == 47) = false := by
 have h1 := dec_all n;rw [List.all_eq_true] at h1;rw [List.any_eq_false];intro c hc he;have : c = 47 := eq_of_beq he;subst this;exact absurd (h1 47 hc) (by decide)
theorem itoa_slash (n : Int) : (Lib.itoa n).any (· == 47) = false := by
 unfold Lib.itoa;split
 ·rw [List.any_cons, dec_slash]; rfl
 ·exact dec_slash _
theorem itoa_low (n : Int) : allB isLow (Lib.itoa n) = false := by
 have hd : ∀ m, allB isLow (Lib.decDigits m) = false := fun m => by
  cases hb : allB isLow (Lib.decDigits m) with
  | false => rfl
  | true =>
   unfold allB at hb;rw [Bool.and_eq_true] at hb;have h2 := List.all_eq_true.1 hb.2;have h1 := List.all_eq_true.1 (dec_all m);cases hdd : Lib.decDigits m with
   | nil => rw [hdd] at hb; cases hb.1
   | cons d y =>
    have k1 := h1 d (by rw [hdd]; simp);have k2 := h2 d (by rw [hdd]; simp);unfold isDig at k1;unfold isLow at k2;simp only [Bool.and_eq_true, decide_eq_true_eq] at k1 k2;omega
 unfold Lib.itoa;split
 ·rfl
 ·exact hd _
theorem head_ne {α : Type} {l : List α} (h : l ≠ []) : ∃ c y, l = c :: y := by
 cases l with
 | nil => exact absurd rfl h
 | cons c y => exact ⟨c, y, rfl⟩
theorem next_spl {a w x : Bytes} {t : Tk} {l : List Tk} (hl : (a ++ (w ++ (tkStr t ++ x))).length ≤ 65536) (hw : w.all isSep = true) (ht : TkSm t) (hx : Spl (isRn t) l x) :
  nextT (a ++ (w ++ (tkStr t ++ x))) a.length = (0, t, ((a.length + w.length + (tkStr t).length : Nat) : Int)) := by
 have hq : endF isSep (a ++ (w ++ (tkStr t ++ x))) a.length = a.length + w.length := endF_app hw (fun c hc => by
  obtain ⟨d, y, hd⟩ := head_ne (tk_ne ht);rw [hd] at hc;simp at hc; subst hc;exact tk_head ht d (by rw [hd]; rfl))
 have hs : a ++ (w ++ (tkStr t ++ x)) = (a ++ w) ++ (tkStr t ++ x) := by rw [List.append_assoc]
 have hn : a.length + w.length = (a ++ w).length := by rw [List.length_append]
 obtain ⟨d, y, hd⟩ := head_ne (tk_ne ht);have hg : (a ++ (w ++ (tkStr t ++ x))).getD (a.length + w.length) 0 = d := by
  rw [hs, hn, hd, List.getD_eq_getElem?_getD, List.getElem?_append_right (Nat.le_refl _), Nat.sub_self];rfl
 have hlt : a.length + w.length < (a ++ (w ++ (tkStr t ++ x))).length := by
  simp only [List.length_append, hd, List.length_cons];omega
 unfold nextT;rw [if_neg (by omega), if_neg (by omega), Int.toNat_natCast, hq, if_neg (by omega), hg];cases t with
 | op =>
  have : d = 40 := by simp [tkStr] at hd; exact hd.1.symm
  subst this;rw [if_pos rfl];simp [tkStr]
 | cl =>
  have : d = 41 := by simp [tkStr] at hd; exact hd.1.symm
  subst this;rw [if_neg (by decide), if_pos rfl];simp [tkStr]
 | wd z =>
  have hrun := tk_run ht rfl;have hdr := run_sep (List.all_eq_true.1 hrun d (by rw [hd]; simp));have e1 : runAt (a ++ (w ++ (tkStr (.wd z) ++ x))) (a.length + w.length) = z := by rw [hs, hn]; exact runAt_app hrun hx.head
  have e2 : endF isRun (a ++ (w ++ (tkStr (.wd z) ++ x))) (a.length + w.length) = a.length + w.length + z.length := by rw [hs, hn]; exact endF_app hrun hx.head
  rw [if_neg hdr.2.1, if_neg hdr.2.2, e1, e2, if_pos ht.1];rfl
 | nm n =>
  have hrun := tk_run ht rfl;have hdr := run_sep (List.all_eq_true.1 hrun d (by rw [hd]; simp));have e1 : runAt (a ++ (w ++ (tkStr (.nm n) ++ x))) (a.length + w.length) = Lib.itoa n := by rw [hs, hn]; exact runAt_app hrun hx.head
  have e2 : endF isRun (a ++ (w ++ (tkStr (.nm n) ++ x))) (a.length + w.length) = a.length + w.length + (Lib.itoa n).length := by rw [hs, hn]; exact endF_app hrun hx.head
  have e3 : allB isNum (Lib.itoa n) = true := by
   unfold allB;rw [itoa_num n];have h5 : Lib.itoa n = d :: y := hd;rw [h5];rfl
  rw [if_neg hdr.2.1, if_neg hdr.2.2, e1, e2, itoa_low n, e3, itoa_slash n, pz_itoa ht];rw [if_neg (by decide), if_neg (by decide), if_neg (by decide), if_neg (by simp)];rfl
theorem spl_toks {p : Bool} {l : List Tk} {x : Bytes} (h : Spl p l x) : ∀ a : Bytes, (a ++ x).length ≤ 65536 → ∃ j : Nat, Toks (a ++ x) a.length l j ∧ j ≤ (a ++ x).length ∧ ((a ++ x).drop j).all isSep = true := by
 induction h with
 | nil q w hw =>
  intro a _;exact ⟨a.length, rfl, by simp, by rw [List.drop_left]; exact hw⟩
 | cons q w t l x hw h1 h2 h3 ih =>
  intro a hl;have hs : a ++ (w ++ (tkStr t ++ x)) = (a ++ (w ++ tkStr t)) ++ x := by simp [List.append_assoc]
  have hn := next_spl hl hw h2 h3;obtain ⟨j, k1, k2, k3⟩ := ih (a ++ (w ++ tkStr t)) (by rw [← hs]; exact hl);rw [← hs] at k1 k2 k3;refine ⟨j, ⟨_, hn, ?_⟩, k2, k3⟩;rw [show a.length + w.length + (tkStr t).length = (a ++ (w ++ tkStr t)).length by simp only [List.length_append]; omega];exact k1
end Go.Proofs.YtkfhpefmmhljmaaGreatDoor
