/- Texts in one: CtZ, CtN. -/
import Derived.Lib.ItoaNum
/- Integers as words of base 2^32, and decimal numerals: plain. No program is named here. -/
namespace Go.Proofs.YtklanoppbbaolaaGreat
set_option linter.unusedSimpArgs false
set_option linter.unusedVariables false

theorem snoc_ind {α : Type} {P : List α → Prop} (h0 : P []) (hs : ∀ l x, P l → P (l ++ [x])) : ∀ l, P l := by
  have key : ∀ l : List α, P l.reverse := by
    intro l
    induction l with
    | nil => exact h0
    | cons x l ih => rw [List.reverse_cons]; exact hs _ _ ih
  intro l
  have := key l.reverse
  rwa [List.reverse_reverse] at this
/-- The value of a list of words, the least first. -/
def wv : List Int → Int
  | [] => 0
  | x :: l => x + 4294967296 * wv l
def Words (l : List Int) : Prop := ∀ x ∈ l, 0 ≤ x ∧ x < 4294967296
theorem Words.tail {x : Int} {l : List Int} (h : Words (x :: l)) : Words l := fun y hy => h y (by simp [hy])
theorem wv_nonneg {l : List Int} (h : Words l) : 0 ≤ wv l := by
  induction l with
  | nil => exact Int.le_refl _
  | cons x l ih =>
    have := ih h.tail
    have := h x (by simp)
    rw [wv]
    omega
theorem wv_append (a b : List Int) : wv (a ++ b) = wv a + 4294967296 ^ a.length * wv b := by
  induction a with
  | nil => simp [wv]
  | cons x a ih =>
    rw [List.cons_append, wv, ih, wv, List.length_cons, Int.pow_succ]
    have : (4294967296 : Int) ^ a.length * 4294967296 * wv b = 4294967296 * (4294967296 ^ a.length * wv b) := by rw [Int.mul_comm (4294967296 ^ a.length) 4294967296, Int.mul_assoc]
    rw [this]
    omega
/-- The words without zeros at their end. -/
def trimL (l : List Int) : List Int := (l.reverse.dropWhile (· == 0)).reverse
theorem trimL_snoc_zero (l : List Int) : trimL (l ++ [0]) = trimL l := by simp [trimL]
theorem trimL_snoc (l : List Int) {x : Int} (h : x ≠ 0) : trimL (l ++ [x]) = l ++ [x] := by simp [trimL, h]
theorem wv_trim (l : List Int) : wv (trimL l) = wv l := by
  refine snoc_ind (P := fun l => wv (trimL l) = wv l) rfl (fun l x ih => ?_) l
  by_cases h : x = 0
  · subst h
    rw [trimL_snoc_zero, ih, wv_append]
    simp [wv]
  · rw [trimL_snoc l h]
theorem trimL_length (l : List Int) : (trimL l).length ≤ l.length := by
  unfold trimL
  rw [List.length_reverse]
  refine Nat.le_trans (List.dropWhile_sublist _).length_le ?_
  simp
theorem trimL_take (l : List Int) : trimL l = l.take (trimL l).length := by
  refine snoc_ind (P := fun l => trimL l = l.take (trimL l).length) rfl (fun l x ih => ?_) l
  by_cases h : x = 0
  · subst h
    rw [trimL_snoc_zero]
    have := trimL_length l
    rw [List.take_append_of_le_length this]
    exact ih
  · rw [trimL_snoc l h, List.take_length]
theorem trimL_words {l : List Int} (h : Words l) : Words (trimL l) := fun x hx => h x (by rw [trimL_take] at hx; exact List.mem_of_mem_take hx)
/-- l times f plus c, word by word. -/
def scL (f : Int) : Int → List Int → List Int
  | c, [] => [c % 4294967296]
  | c, x :: l => (x * f + c) % 4294967296 :: scL f ((x * f + c) / 4294967296) l
theorem scL_spec (f : Int) (hf0 : 0 ≤ f) (hf : f ≤ 1000000000) : ∀ (l : List Int) (c : Int), Words l → 0 ≤ c → c < 4294967296 → Words (scL f c l) ∧ wv (scL f c l) = wv l * f + c := by
  intro l
  induction l with
  | nil =>
    intro c _ h0 h1
    refine ⟨fun x hx => ?_, ?_⟩
    · simp [scL] at hx; omega
    · simp [scL, wv]; omega
  | cons x l ih =>
    intro c hw h0 h1
    have hx := hw x (by simp)
    have hmul : 0 ≤ x * f := Int.mul_nonneg hx.1 hf0
    have hub : x * f ≤ 4294967295 * 1000000000 := Int.mul_le_mul (by omega) hf hf0 (by omega)
    obtain ⟨h2, h3⟩ := ih ((x * f + c) / 4294967296) hw.tail (by omega) (by omega)
    refine ⟨fun y hy => ?_, ?_⟩
    · rw [scL] at hy
      rcases List.mem_cons.1 hy with rfl | hy
      · omega
      · exact h2 y hy
    · rw [scL, wv, h3, wv, Int.add_mul, Int.mul_add]
      have : 4294967296 * wv l * f = 4294967296 * (wv l * f) := Int.mul_assoc _ _ _
      rw [this]
      omega
/-- The value of decimal digits, the first ahead. -/
def dval (l : List UInt8) : Nat := l.foldl (fun a d => a * 10 + (d.toNat - 48)) 0
theorem dval_snoc (l : List UInt8) (d : UInt8) : dval (l ++ [d]) = dval l * 10 + (d.toNat - 48) := by simp [dval]
theorem dval_append (a b : List UInt8) : dval (a ++ b) = dval a * 10 ^ b.length + dval b := by
  refine snoc_ind (P := fun b => dval (a ++ b) = dval a * 10 ^ b.length + dval b) (by simp [dval]) (fun b d ih => ?_) b
  rw [← List.append_assoc, dval_snoc, dval_snoc, ih, List.length_append]
  simp only [List.length_singleton, Nat.pow_succ]
  rw [Nat.add_mul, Nat.mul_assoc]
  omega
theorem dval_dec (n : Nat) : dval (Lib.decDigits n) = n := by
  induction n using Nat.strongRecOn with
  | _ n ih =>
    rw [Lib.decDigits]
    split
    · next h =>
      have : (UInt8.ofNat (48 + n)).toNat = 48 + n := by simp [UInt8.toNat_ofNat']; omega
      have e : dval [UInt8.ofNat (48 + n)] = (UInt8.ofNat (48 + n)).toNat - 48 := by unfold dval; rw [List.foldl_cons, List.foldl_nil]; omega
      rw [e, this]
      omega
    · next h =>
      rw [dval_snoc, ih (n / 10) (by omega)]
      have : (UInt8.ofNat (48 + n % 10)).toNat = 48 + n % 10 := by simp [UInt8.toNat_ofNat']; omega
      rw [this]
      omega
def isDig (d : UInt8) : Bool := decide (48 ≤ d.toNat) && decide (d.toNat ≤ 57)
/-- Digits without a leading zero. -/
def isDec (l : List UInt8) : Bool := !l.isEmpty && (l.head? != some 48 || l.length == 1) && l.all isDig
theorem isDig_of {n : Nat} (h : n < 10) : isDig (UInt8.ofNat (48 + n)) = true := by
  have : (UInt8.ofNat (48 + n)).toNat = 48 + n := by simp [UInt8.toNat_ofNat']; omega
  unfold isDig
  rw [this]
  simp
  omega
theorem dec_all (n : Nat) : (Lib.decDigits n).all isDig = true := by
  induction n using Nat.strongRecOn with
  | _ n ih =>
    rw [Lib.decDigits]
    split
    · next h => rw [List.all_cons, isDig_of h]; rfl
    · next h => rw [List.all_append, ih (n / 10) (by omega), List.all_cons, isDig_of (show n % 10 < 10 by omega)]; rfl
theorem dec_ne (n : Nat) : Lib.decDigits n ≠ [] := by
  rw [Lib.decDigits]; split <;> simp
theorem dec_head {n : Nat} (h : 0 < n) : (Lib.decDigits n).head? ≠ some 48 := by
  induction n using Nat.strongRecOn with
  | _ n ih =>
    rw [Lib.decDigits]
    split
    · next h' =>
      simp only [List.head?_cons, ne_eq, Option.some.injEq]
      intro e
      have := congrArg UInt8.toNat e
      have h2 : (UInt8.ofNat (48 + n)).toNat = 48 + n := by simp [UInt8.toNat_ofNat']; omega
      rw [h2] at this
      have h3 : (48 : UInt8).toNat = 48 := rfl
      omega
    · next h' =>
      have := ih (n / 10) (by omega) (by omega)
      cases hd : Lib.decDigits (n / 10) with
      | nil => exact absurd hd (dec_ne _)
      | cons a b => rw [hd] at this; simpa using this
theorem dec_isDec (n : Nat) : isDec (Lib.decDigits n) = true := by
  unfold isDec
  rw [dec_all]
  have h1 : (Lib.decDigits n).isEmpty = false := by
    cases hd : Lib.decDigits n with
    | nil => exact absurd hd (dec_ne n)
    | cons a b => rfl
  rw [h1]
  by_cases h : n = 0
  · subst h; decide +kernel
  · have := dec_head (show 0 < n by omega)
    simp [this]
end Go.Proofs.YtklanoppbbaolaaGreat
/- Decimal digits, the least first, and the numeral: plain. No program is named here. -/
namespace Go.Proofs.YtklanoppbbaolaaGreat
set_option linter.unusedSimpArgs false
set_option linter.unusedVariables false

/-- The digits of u, the least first. -/
def ldN (u : Nat) : List Nat := if h : u < 10 then [u] else (u % 10) :: ldN (u / 10)
termination_by u
decreasing_by omega
theorem ldN_small {u : Nat} (h : u < 10) : ldN u = [u] := by rw [ldN, dif_pos h]
theorem ldN_big {u : Nat} (h : ¬ u < 10) : ldN u = (u % 10) :: ldN (u / 10) := by rw [ldN, dif_neg h]
def asc (d : Nat) : UInt8 := UInt8.ofNat (48 + d)
theorem dec_ld (u : Nat) : Lib.decDigits u = ((ldN u).map asc).reverse := by
  induction u using Nat.strongRecOn with
  | _ u ih =>
    by_cases h : u < 10
    · rw [ldN_small h, Lib.decDigits, dif_pos h]; rfl
    · rw [ldN_big h, Lib.decDigits, dif_neg h, ih (u / 10) (by omega), List.map_cons, List.reverse_cons]; rfl
/-- The value of digits, the least first. -/
def ldv : List Nat → Nat
  | [] => 0
  | d :: l => d + 10 * ldv l
/-- Without zeros at the end. -/
def strip : List Nat → List Nat
  | [] => []
  | d :: l => if strip l = [] then (if d = 0 then [] else [d]) else d :: strip l
theorem strip_nil {l : List Nat} (h : strip l = []) : ldv l = 0 := by
  induction l with
  | nil => rfl
  | cons d l ih =>
    rw [strip] at h
    by_cases h1 : strip l = []
    · rw [if_pos h1] at h
      by_cases h2 : d = 0
      · rw [ldv, ih h1, h2]
      · rw [if_neg h2] at h; simp at h
    · rw [if_neg h1] at h; simp at h
theorem strip_of {l : List Nat} (h : ∀ d ∈ l, d < 10) (hp : 0 < ldv l) : strip l = ldN (ldv l) := by
  induction l with
  | nil => simp [ldv] at hp
  | cons d l ih =>
    have hd := h d (by simp)
    rw [strip]
    by_cases h1 : strip l = []
    · have h0 := strip_nil h1
      rw [ldv, h0] at hp ⊢
      rw [if_pos h1, if_neg (by omega), ldN_small (by omega)]
      simp
    · rw [if_neg h1]
      have hv : 0 < ldv l := by
        apply Nat.pos_of_ne_zero
        intro h0
        apply h1
        clear ih h1 hp h hd
        induction l with
        | nil => rfl
        | cons e l ih =>
          rw [ldv] at h0
          rw [strip, ih (by omega), if_pos rfl, if_pos (by omega)]
      rw [ih (fun e he => h e (by simp [he])) hv, ldv, ldN_big (u := d + 10 * ldv l) (by omega)]
      have e1 : (d + 10 * ldv l) % 10 = d := by omega
      have e2 : (d + 10 * ldv l) / 10 = ldv l := by omega
      rw [e1, e2]
theorem strip_snoc_zero (l : List Nat) : strip (l ++ [0]) = strip l := by
  induction l with
  | nil => rfl
  | cons d l ih => rw [List.cons_append, strip, ih, strip]
theorem strip_snoc {l : List Nat} {d : Nat} (h : d ≠ 0) : strip (l ++ [d]) = l ++ [d] := by
  induction l with
  | nil => simp [strip, h]
  | cons e l ih => rw [List.cons_append, strip, ih, if_neg (by simp)]
/-- So many digits of r, the least first. -/
def digs (r : Nat) : Nat → List Nat
  | 0 => []
  | n + 1 => (r % 10) :: digs (r / 10) n
theorem digs_lt (n : Nat) : ∀ r, ∀ d ∈ digs r n, d < 10 := by
  induction n with
  | zero => intro r d hd; simp [digs] at hd
  | succ n ih =>
    intro r d hd
    rcases List.mem_cons.1 hd with rfl | hd
    · omega
    · exact ih _ d hd
theorem digs_val (n : Nat) : ∀ r, r < 10 ^ n → ldv (digs r n) = r := by
  induction n with
  | zero => intro r h; simp at h; simp [digs, ldv, h]
  | succ n ih =>
    intro r h
    rw [digs, ldv, ih (r / 10) (by rw [Nat.pow_succ] at h; omega)]
    omega
theorem digs_length (r n : Nat) : (digs r n).length = n := by
  induction n generalizing r with
  | zero => rfl
  | succ n ih => rw [digs, List.length_cons, ih]
theorem digs_snoc (n : Nat) : ∀ r, digs r (n + 1) = digs r n ++ [r / 10 ^ n % 10] := by
  induction n with
  | zero => intro r; simp [digs]
  | succ n ih =>
    intro r
    rw [digs, ih (r / 10), digs, List.cons_append, Nat.div_div_eq_div_mul, Nat.pow_succ, Nat.mul_comm 10]
theorem ldv_append (a b : List Nat) : ldv (a ++ b) = ldv a + 10 ^ a.length * ldv b := by
  induction a with
  | nil => simp [ldv]
  | cons d a ih =>
    rw [List.cons_append, ldv, ih, ldv, List.length_cons, Nat.pow_succ, Nat.mul_add]
    have : 10 ^ a.length * 10 * ldv b = 10 * (10 ^ a.length * ldv b) := by rw [Nat.mul_comm (10 ^ a.length) 10, Nat.mul_assoc]
    omega
end Go.Proofs.YtklanoppbbaolaaGreat
