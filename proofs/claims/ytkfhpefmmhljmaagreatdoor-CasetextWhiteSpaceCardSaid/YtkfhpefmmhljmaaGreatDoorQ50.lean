/- Texts in one: LxL, LxW. -/
import Derived.Lib.ReplaceLaws
import Derived.Lib.IndexBytes
import Derived.Lib.CountLaws
import Derived.Test.YtkfhpefmmhljmaaGreatDoorQ47
import Derived.Test.YtkfhpefmmhljmaaGreatDoorQ46
set_option linter.unusedVariables false
set_option linter.unusedSimpArgs false
/- LxL -/
namespace Go.Proofs.YtkfhpefmmhljmaaGreatDoor
set_option linter.unusedSimpArgs false
def cost : Tk → Nat
 | .op => 2
 | .cl => 1
 | .wd t => t.length + 1
 | .nm _ => 12
def costs (l : List Tk) : Nat := (l.map cost).sum
theorem costs_nil : costs [] = 0 := rfl
theorem costs_cons (t : Tk) (l : List Tk) : costs (t :: l) = cost t + costs l := by unfold costs; rw [List.map_cons, List.sum_cons]
theorem costs_app (a b : List Tk) : costs (a ++ b) = costs a + costs b := by unfold costs; rw [List.map_append, List.sum_append]
theorem cost_ok {t : Tk} (h : TkSm t) (p : Tk) : (sepB p t).length + (tkStr t).length ≤ cost t := by
 cases t with
 | op => have := sepB_len p .op; simp [tkStr, cost]; omega
 | cl => simp [sepB, isCl, tkStr, cost]
 | wd y => have := sepB_len p (.wd y); simp [tkStr, cost]; omega
 | nm n => have := sepB_len p (.nm n); have := itoa_len h; simp [tkStr, cost]; omega
theorem fmtGo_cost : ∀ (l : List Tk) (o : Option Tk), (∀ t ∈ l, TkSm t) → (fmtGo o l).length ≤ costs l := by
 intro l
 induction l with
 | nil => intro o _; cases o <;> simp [fmtGo, costs]
 | cons t l ih =>
  intro o h;have h1 := ih (some t) (fun x hx => h x (by simp [hx]));have h2 := h t (by simp);rw [costs_cons];cases o with
  | none => have := cost_ok h2 .op; rw [fmtGo, List.length_append]; omega
  | some q => have := cost_ok h2 q; rw [fmtGo, List.length_append, List.length_append]; omega
theorem costs_flat {α : Type} {T : α → List Tk} {m : Nat} (h : ∀ x, costs (T x) = m) (l : List α) : costs (l.flatMap T) = l.length * m := by
 induction l with
 | nil => simp [costs]
 | cons x l ih => rw [List.flatMap_cons, costs_app, ih, h, List.length_cons, Nat.succ_mul]; omega
theorem step_cost (x : St) : costs (stepT x) = 27 := by unfold stepT; simp [costs_cons, costs_nil, cost]
theorem line_cost (x : Ln) : costs (lineT x) = 56 := by unfold lineT; simp [costs_cons, costs_nil, cost]
theorem bid_len2 {nb : Int} {b : Bd} (hn : nb ≤ 6) (hk : bidE nb b = 0) : (fmtT (bidT b)).length ≤ 100 := by
 obtain ⟨_, h2, h3, h4⟩ := bidE_sm hn hk;have h5 := fmtGo_cost (bidT b) none (bidT_sm h2 h4);have h6 : costs (bidT b) = 19 + b.steps.length * 27 := by
  unfold bidT;rw [costs_cons, costs_cons, costs_cons, costs_app, costs_flat step_cost];simp [costs_cons, costs_nil, cost];omega
 show (fmtGo none (bidT b)).length ≤ _
 omega
theorem unit_len2 {nb : Int} {u : Un} (hn : nb ≤ 6) (hk : unitE nb u = 0) : (fmtT (unitT u)).length ≤ 190 := by
 obtain ⟨_, h2, h3, h4⟩ := unitE_sm hn hk;have h5 := fmtGo_cost (unitT u) none (unitT_sm h2 h4);have h6 : costs (unitT u) = 104 + u.steps.length * 27 := by
  unfold unitT;rw [costs_cons, costs_cons, costs_app, costs_app, costs_flat step_cost];simp [unNums, costs_cons, costs_nil, cost];omega
 show (fmtGo none (unitT u)).length ≤ _
 omega
theorem net_len2 {x : Nt} (h : checkE x.buses x.lines = 0) : (fmtT (netT x)).length ≤ 580 := by
 obtain ⟨hb1, hb2, h3, h4⟩ := checkE_sm h;have h5 := fmtGo_cost (netT x) none (netT_sm (by unfold small; omega) h4);have h6 : costs (netT x) = 19 + x.lines.length * 56 := by
  unfold netT;rw [costs_cons, costs_cons, costs_cons, costs_app, costs_flat line_cost];simp [costs_cons, costs_nil, cost];omega
 show (fmtGo none (netT x)).length ≤ _
 omega
theorem out_len2 {o : Og} (h : OgOk o) : (fmtT (outT o)).length ≤ 50 := by
 have h5 := fmtGo_cost (outT o) none (outT_sm h.small);have hk : (kindW o.1).length = 4 := by unfold kindW; split; rfl; split <;> rfl
 have h6 : costs (outT o) = 44 := by unfold outT; simp [costs_cons, costs_nil, cost, hk]
 show (fmtGo none (outT o)).length ≤ _
 omega
theorem right_len2 {r : Rt} (h : RtOk r) : (rightS r).length ≤ 50 := by
 have h1 := itoa_len h.1;have h2 := itoa_len h.2.1;have h3 := itoa_len h.2.2;unfold rightS;simp only [List.length_append, List.length_cons, List.length_nil];omega
theorem list_len2 {α : Type} {f : α → Bytes} {y : Bytes} {l : List α} {m : Nat} (h : ∀ x ∈ l, (f x).length ≤ m) : (listS y (l.map f)).length ≤ y.length + 2 + l.length * (m + 1) := by
 have := joinS_len (y := y) (ts := l.map f) (m := m) (fun t ht => by obtain ⟨x, hx, rfl⟩ := List.mem_map.1 ht; exact h x hx);rw [List.length_map] at this;unfold listS;simp only [List.length_cons, List.length_append, List.length_nil];omega
theorem hour_len2 {nb : Int} {x : Hr} (hn : nb ≤ 6) (hk : HrOk nb x) : (hourS x).length ≤ 1250 := by
 have h1 := itoa_len hk.e;have h2 := list_len2 (y := [98, 105, 100, 115]) (f := fun x => fmtT (bidT x)) (fun b hb => bid_len2 hn (hk.a b hb));have h3 := list_len2 (y := [114, 101, 97, 108]) (f := fun x => fmtT (bidT x)) (fun b hb => bid_len2 hn (hk.b b hb));have h4 := hk.c;have h5 := hk.d;unfold hourS;simp only [List.length_append, List.length_cons, List.length_nil] at h2 h3 ⊢;omega
theorem caseS_len {x : Cs} (hx : dayE x = 0) : (caseS x).length ≤ 13000 := by
 have ok := dayE_ok hx;obtain ⟨_, hn6, _, _⟩ := checkE_sm ok.net;have h1 := net_len2 ok.net;have h2 := list_len2 (y := [117, 110, 105, 116, 115]) (f := fun x => fmtT (unitT x)) (fun u hu => unit_len2 hn6 (ok.us u hu));have h3 := list_len2 (y := [104, 111, 117, 114, 115]) (f := hourS) (fun u hu => hour_len2 hn6 (ok.hs u hu));have h4 := list_len2 (y := [111, 117, 116, 97, 103, 101, 115]) (f := fun x => fmtT (outT x)) (fun u hu => out_len2 (ok.os u hu));have h5 := list_len2 (y := [114, 105, 103, 104, 116, 115]) (f := rightS) (fun u hu => right_len2 (ok.rs u hu));have k1 := ok.un;have k2 := ok.hn;have k3 := ok.on;have k4 := ok.rn;unfold caseS joinS;simp only [List.flatMap_cons, List.flatMap_nil, List.length_append, List.length_cons, List.length_nil] at h2 h3 h4 h5 ⊢;omega
theorem wide_len {g : UInt8 → Bytes} (h : ∀ c, (g c).length ≤ 3) (l : Bytes) : (l.flatMap g).length ≤ 3 * l.length := by
 induction l with
 | nil => simp
 | cons c l ih => rw [List.flatMap_cons, List.length_append, List.length_cons]; have := h c; omega
end Go.Proofs.YtkfhpefmmhljmaaGreatDoor
/- LxW -/
namespace Go.Proofs.YtkfhpefmmhljmaaGreatDoor
set_option linter.unusedSimpArgs false
def repG (c : UInt8) (new : Bytes) (x : UInt8) : Bytes := if x = c then new else [x]
theorem rep_one (c : UInt8) (new : Bytes) : ∀ s : Bytes, Lib.replaceK [c] new (Lib.count s [c]) s = s.flatMap (repG c new)
 | [] => by rw [Lib.count_one]; rfl
 | b :: s => by
  have ih := rep_one c new s;rw [List.flatMap_cons];by_cases h : b = c
  ·subst h;rw [Lib.count_cons_eq, Nat.add_comm, Lib.replaceK_hit [b] new _ (b :: s) 0 (by rw [Lib.index_one, Lib.indexByte]; simp)];simp only [List.take_zero, List.nil_append, List.length_singleton, Nat.zero_add, List.drop_succ_cons, List.drop_zero];rw [ih, repG, if_pos rfl]
  ·rw [Lib.count_cons_ne b c s h, show repG c new b = [b] by rw [repG, if_neg h], ← ih];cases hk : Lib.count s [c] with
   | zero => rfl
   | succ k =>
    obtain ⟨i, hi⟩ := Lib.index_of_count (s := s) (old := [c]) (by omega);have hi2 : Lib.index (b :: s) [c] = ((i + 1 : Nat) : Int) := by
     rw [Lib.index_one] at hi ⊢;rw [Lib.indexByte];split
     ·rename_i h'; exact absurd (by simpa using h') h
     ·split
      ·rename_i h'; have := beq_iff_eq.1 h'; omega
      ·omega
    rw [Lib.replaceK_hit [c] new k (b :: s) (i + 1) hi2, Lib.replaceK_hit [c] new k s i hi];simp [Nat.add_right_comm]
theorem replaceAll_one (c : UInt8) (new : Bytes) (s : Bytes) (hn : new ≠ [c]) : Lib.replaceAll s [c] new = s.flatMap (repG c new) := by
 unfold Lib.replaceAll Lib.replace;rw [if_neg (by rw [beq_iff_eq]; exact fun h => hn h.symm)];unfold Lib.replaceNum;rw [if_pos (.inl (by decide)), rep_one]
theorem wid32 : Wid (repG 32 [32, 10, 32]) where
 sep := fun c hc => by rcases sep_cases hc with rfl | rfl <;> decide
 op := ⟨[], rfl, rfl⟩
 cl := rfl
 run := fun c hc => by rw [repG, if_neg (by rintro rfl; revert hc; decide)]
theorem wid40 : Wid (repG 40 [40, 32]) where
 sep := fun c hc => by rcases sep_cases hc with rfl | rfl <;> decide
 op := ⟨[32], rfl, rfl⟩
 cl := rfl
 run := fun c hc => by rw [repG, if_neg (by rintro rfl; revert hc; decide)]
theorem wide_parse {x : Cs} (hx : dayE x = 0) : parseP (10 :: (((caseS x).flatMap (repG 32 [32, 10, 32])).flatMap (repG 40 [40, 32]) ++ [10])) = (0, x) ∧
  (10 :: (((caseS x).flatMap (repG 32 [32, 10, 32])).flatMap (repG 40 [40, 32]) ++ [10])).any (· == 47) = false ∧ (((caseS x).flatMap (repG 32 [32, 10, 32])).flatMap (repG 40 [40, 32])).length ≤ 39000 ∧ ((caseS x).flatMap (repG 32 [32, 10, 32])).length ≤ 39000 ∧ (caseS x).length ≤ 13000 := by
 have h0 := caseS_len hx;have hS : Spl false (caseT x) (10 :: (((caseS x).flatMap (repG 32 [32, 10, 32])).flatMap (repG 40 [40, 32]) ++ [10])) := by
  have h1 := (((spl_case hx false).wide wid32).wide wid40).app (b := []) (y := [10]) (Spl.nil _ _ (by decide));rw [List.append_nil] at h1;exact h1.prep (w := [10]) (by decide)
 have hl : (((caseS x).flatMap (repG 32 [32, 10, 32])).flatMap (repG 40 [40, 32])).length ≤ 39000 := by
  rw [List.flatMap_assoc];have := wide_len (g := fun c => (repG 32 [32, 10, 32] c).flatMap (repG 40 [40, 32])) (fun c => by
   unfold repG;split
   ·decide
   ·rw [List.flatMap_singleton];split <;> simp) (caseS x)
  omega
 have hl2 : ((caseS x).flatMap (repG 32 [32, 10, 32])).length ≤ 39000 := by
  have := wide_len (g := repG 32 [32, 10, 32]) (fun c => by unfold repG; split <;> simp) (caseS x);omega
 exact ⟨parse_spl hx hS (by rw [List.length_cons, List.length_append, List.length_singleton]; omega), spl_slash hS, hl, hl2, h0⟩
end Go.Proofs.YtkfhpefmmhljmaaGreatDoor
