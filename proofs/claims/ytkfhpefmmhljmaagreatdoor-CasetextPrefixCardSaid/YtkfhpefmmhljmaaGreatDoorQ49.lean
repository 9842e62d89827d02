/- The text LxE. -/
import Derived.Test.YtkfhpefmmhljmaaGreatDoorQ48
import Derived.Test.YtkfhpefmmhljmaaGreatDoorQ43
set_option linter.unusedVariables false
set_option linter.unusedSimpArgs false
/- LxE -/
namespace Go.Proofs.YtkfhpefmmhljmaaGreatDoor
set_option linter.unusedSimpArgs false
theorem endF_ext {p : UInt8 → Bool} {s : Bytes} {i : Nat} (r : Bytes) (hi : i ≤ s.length) (h : endF p s i < s.length) : endF p (s ++ r) i = endF p s i := by
 unfold endF at h ⊢;rw [List.drop_append_of_le_length hi, List.takeWhile_append, if_neg (by rw [List.length_drop]; omega)]
theorem runAt_ext {s : Bytes} {q : Nat} (r : Bytes) (hq : q ≤ s.length) (h : endF isRun s q < s.length) : runAt (s ++ r) q = runAt s q := by
 unfold runAt;rw [endF_ext r hq h, List.drop_append_of_le_length hq, List.take_append_of_le_length (by rw [List.length_drop]; omega)]
theorem next_ext {s : Bytes} {i k : Int} {t : Tk} (r : Bytes) (hl : (s ++ r).length ≤ 65536) (h : nextT s i = (0, t, k)) (hk : k < s.length ∨ isRn t = false) : nextT (s ++ r) i = (0, t, k) := by
 have hlen : (s ++ r).length = s.length + r.length := List.length_append;unfold nextT at h ⊢;by_cases h1 : 65536 < s.length
 ·omega
 by_cases h2 : i < 0 ∨ (s.length : Int) < i
 ·rw [if_neg h1, if_pos h2] at h; cases h
 rw [if_neg h1, if_neg h2] at h;rw [if_neg (by omega), if_neg (by omega)];have hi := endF_le isSep s i.toNat (by omega);by_cases h3 : endF isSep s i.toNat = s.length
 ·rw [if_pos h3] at h; cases h
 rw [if_neg h3] at h;have hq : endF isSep s i.toNat < s.length := by omega
 have hg : (s ++ r).getD (endF isSep s i.toNat) 0 = s.getD (endF isSep s i.toNat) 0 := by
  rw [List.getD_eq_getElem?_getD, List.getD_eq_getElem?_getD, List.getElem?_append_left hq]
 rw [endF_ext r (by omega) hq, if_neg (by omega), hg];by_cases h4 : s.getD (endF isSep s i.toNat) 0 = 40
 ·rw [if_pos h4] at h ⊢; exact h
 rw [if_neg h4] at h ⊢;by_cases h5 : s.getD (endF isSep s i.toNat) 0 = 41
 ·rw [if_pos h5] at h ⊢; exact h
 rw [if_neg h5] at h ⊢;have key : endF isRun s (endF isSep s i.toNat) < s.length := by
  by_cases h6 : allB isLow (runAt s (endF isSep s i.toNat)) = true
  ·rw [if_pos h6] at h;obtain ⟨_, rfl, rfl⟩ := h;rcases hk with hk | hk
   ·exact Int.ofNat_lt.1 hk
   ·cases hk
  rw [if_neg h6] at h;by_cases h7 : (!allB isNum (runAt s (endF isSep s i.toNat))) = true
  ·rw [if_pos h7] at h; cases h
  rw [if_neg h7] at h;by_cases h8 : (runAt s (endF isSep s i.toNat)).any (· == 47) = true
  ·rw [if_pos h8] at h; cases h
  rw [if_neg h8] at h;by_cases h9 : (pz (runAt s (endF isSep s i.toNat))).1 ≠ 0
  ·rw [if_pos h9] at h; exact absurd (congrArg Prod.fst h) h9
  rw [if_neg h9] at h;obtain ⟨_, rfl, rfl⟩ := h;rcases hk with hk | hk
  ·exact Int.ofNat_lt.1 hk
  ·cases hk
 rw [runAt_ext r (by omega) key, endF_ext r (by omega) key];exact h
theorem lastp_snoc : ∀ (a : List Tk) (p : Bool) (t : Tk), lastp p (a ++ [t]) = isRn t := by
 intro a
 induction a with
 | nil => intro p t; rfl
 | cons x a ih => intro p t; exact ih _ _
theorem toks_ext {s : Bytes} (r : Bytes) (hl : (s ++ r).length ≤ 65536) : ∀ {l : List Tk} {i j : Int} {p : Bool}, Toks s i l j → lastp p l = false → Toks (s ++ r) i l j := by
 intro l
 induction l with
 | nil => intro i j p h _; exact h
 | cons t l ih =>
  rintro i j p ⟨k, h1, h2⟩ hp;replace hp : lastp (isRn t) l = false := hp;refine ⟨k, next_ext r hl h1 ?_, ih h2 hp⟩;cases l with
  | nil => exact Or.inr hp
  | cons u l =>
   obtain ⟨m, h3, _⟩ := h2;exact Or.inl (lex_in h3).2
theorem caseT_last (x : Cs) (p : Bool) : lastp p (caseT x) = false := lastp_snoc _ _ _
theorem caseP_ext {s : Bytes} (r : Bytes) (hl : (s ++ r).length ≤ 65536) {i : Int} (h : (caseP s i).1 = 0) : caseP (s ++ r) i = (0, (caseP s i).2.1, (caseP s i).2.2) := by
 obtain ⟨h1, h2⟩ := case_read h;exact case_fwd h2 (toks_ext r hl h1 (caseT_last _ true))
theorem caseS_last (x : Cs) : ∃ b, caseS x = b ++ [41] := ⟨_, rfl⟩
theorem parse_pre {x : Cs} (hx : dayE x = 0) {s r : Bytes} (hr : r ≠ []) (e : caseS x = s ++ r) (hl : (caseS x).length ≤ 65536) : (parseP s).1 ≠ 0 := by
 intro h;have h0 : (caseP s 0).1 = 0 := by
  unfold parseP at h;by_cases h1 : (caseP s 0).1 ≠ 0
  ·rw [if_pos h1] at h; exact absurd h h1
  ·exact Decidable.not_not.1 h1
 have h1 := caseP_ext r (by rw [← e]; exact hl) h0;obtain ⟨j, h2, h3, h4⟩ := spl_toks (spl_case hx false) [] (by simpa using hl);rw [List.nil_append] at h2 h3 h4;have h5 := case_fwd hx h2;rw [← e] at h1;have h6 : (caseP s 0).2.2 = j := by
  have := h1.symm.trans h5;exact congrArg (fun p => p.2.2) this
 have h7 := (caseP_le s 0 h0).2;rw [h6] at h7;have h8 : 0 < r.length := List.length_pos_iff.2 hr;have h9 : j < (caseS x).length := by rw [e, List.length_append]; omega
 obtain ⟨b, hb⟩ := caseS_last x;rw [hb] at h4 h9;rw [List.length_append, List.length_singleton] at h9;rw [List.drop_append_of_le_length (by omega), List.all_append, Bool.and_eq_true] at h4;exact absurd h4.2 (by decide)
theorem spl_slash {p : Bool} {l : List Tk} {x : Bytes} (h : Spl p l x) : x.any (· == 47) = false := by
 have hw : ∀ w : Bytes, w.all isSep = true → w.any (· == 47) = false := fun w hw => by
  rw [List.any_eq_false];intro c hc he;have : c = 47 := eq_of_beq he;subst this;exact absurd (List.all_eq_true.1 hw 47 hc) (by decide)
 induction h with
 | nil q w h => exact hw w h
 | cons q w t l x h1 h2 h3 h4 ih =>
  rw [List.any_append, List.any_append, ih, hw w h1, Bool.or_false, Bool.false_or];cases t with
  | op => decide
  | cl => decide
  | nm n => exact itoa_slash n
  | wd y =>
   have h5 : allB isLow y = true := h3.1;unfold allB at h5;rw [Bool.and_eq_true] at h5;rw [List.any_eq_false];intro c hc he;have : c = 47 := eq_of_beq he;subst this;exact absurd (List.all_eq_true.1 h5.2 47 hc) (by decide)
end Go.Proofs.YtkfhpefmmhljmaaGreatDoor
