/- The text Ew19. -/
import Derived.Test.YtklanoppbbaolaaGreatMg39
/- A closed run in pieces: states written as numbers. No program is named here. -/
namespace Go.Proofs.YtklanoppbbaolaaGreat
open Go Go.RowKit
set_option linter.unusedVariables false
set_option linter.unusedSimpArgs false
/-- The number's bytes, some of them together. -/
def toks : Nat → Nat → List Nat
  | 0, _ => []
  | f + 1, x => match x with
    | 0 => []
    | y + 1 => match Nat.ble 250 (x % 256) with
      | false => (x % 256) :: toks f (x / 256)
      | true => match x % 256 with
        | 250 => (x / 256 % 65536) :: toks f (x / 16777216)
        | 251 => (x / 256 % 4294967296) :: toks f (x / 1099511627776)
        | _ => (x / 256 % 18446744073709551616) :: toks f (x / 4722366482869645213696)
def mkTr {α : Type} : List (Nat × α) → Tr α
  | [] => .lf
  | (b, k) :: l => (mkTr l).set FU b (some k)
def kdI : Nat → IntKind
  | 0 => .i64
  | 1 => .u64
  | 2 => .u8
  | 3 => .u16
  | 4 => .u32
  | 5 => .i32
  | 6 => .i16
  | _ => .i8
def pBytes : Nat → List Nat → List UInt8 × List Nat
  | 0, l => ([], l)
  | _ + 1, [] => ([], [])
  | n + 1, b :: l => match pBytes n l with
    | (r, l) => (UInt8.ofNat b :: r, l)
mutual
def pA : Nat → List Nat → AV × List Nat
  | 0, l => (UV, l)
  | f + 1, [] => (UV, [])
  | f + 1, t :: l => match Nat.ble 20 t with
    | true => (.v (.int .i64 (Int.ofNat (t - 20))), l)
    | false => match t, l with
      | 0, v :: l => (.v (.int .i64 (Int.ofNat v)), l)
      | 1, k :: s :: v :: l => (.v (.int (kdI k) (match s with | 0 => Int.ofNat v | _ + 1 => Int.negSucc v)), l)
      | 2, b :: l => (.v (.bool (match b with | 0 => false | _ + 1 => true)), l)
      | 3, n :: l => match pBytes n l with
        | (bs, l) => (.v (.string ⟨bs.toArray⟩), l)
      | 4, l => (.v (.slice none 0 0), l)
      | 5, l => (.v (.pointer none), l)
      | 6, l => (.v .nilFunc, l)
      | 7, l => (.v .nilIface, l)
      | 8, l => (.v (.map none), l)
      | 9, l => (UV, l)
      | 10, b :: o :: l => (.ptr b o, l)
      | 11, b :: o :: e :: n :: l => (.sl b o e n, l)
      | 12, b :: o :: n :: c :: l => (.sk b o n c, l)
      | 13, n :: l => match pL f n l with
        | (r, l) => (.agg r, l)
      | 14, n :: l => match pL f n l with
        | (r, l) => (.tup r, l)
      | 15, g :: n :: l => match pL f n l with
        | (r, m :: l) => match pL f m l with
          | (q, l) => (.fn g r q, l)
        | (_, []) => (UV, [])
      | 16, b :: l => (.yl b, l)
      | 17, b :: l => (.mp b, l)
      | 18, t :: l => match pA f l with
        | (a, l) => (.ifc t a, l)
      | _, l => (UV, l)
def pL : Nat → Nat → List Nat → List AV × List Nat
  | 0, _, l => ([], l)
  | f + 1, 0, l => ([], l)
  | f + 1, n + 1, l => match pA f l with
    | (a, l) => match pL f n l with
      | (r, l) => (a :: r, l)
end
/-- Slots, each with its number. -/
def pSl : Nat → List Nat → List (Nat × AV) × List Nat
  | 0, l => ([], l)
  | _ + 1, [] => ([], [])
  | n + 1, d :: l => match pA 1000 l with
    | (a, l) => match pSl n l with
      | (r, l) => ((d, a) :: r, l)
def pPairs : Nat → List Nat → List (AV × AV) × List Nat
  | 0, l => ([], l)
  | n + 1, l => match pA 1000 l with
    | (a, l) => match pA 1000 l with
      | (b, l) => match pPairs n l with
        | (r, l) => ((a, b) :: r, l)
def pBl : Nat → List Nat → List (Nat × Ob) × List Nat
  | 0, l => ([], l)
  | n + 1, b :: 0 :: t :: sz :: ex :: m :: l => match pL 100000 m l with
    | (cs, l) => match pBl n l with
      | (r, l) => ((b, .c cs t sz (match ex with | 0 => false | _ + 1 => true)) :: r, l)
  | n + 1, b :: 1 :: l => match pBl n l with
    | (r, l) => ((b, .df) :: r, l)
  | n + 1, b :: 2 :: m :: l => match pPairs m l with
    | (es, l) => match pBl n l with
      | (r, l) => ((b, .mp es) :: r, l)
  | _ + 1, l => ([], l)
/-- One move through the code. -/
def mv (P : Program) (m n : Nat) : List AIt → List AIt
  | [] => []
  | h :: k => match m with
    | 0 => k
    | 1 => match h with
      | .it (.code (.seq a b)) => .it (.code a) :: .it (.code b) :: k
      | .it (.code (.block id b)) => .it (.code b) :: .it (.inBlock id) :: k
      | .it (.code (.loop b)) => .it (.code b) :: .it (.inLoop b) :: k
      | .it (.inLoop b) => .it (.code b) :: .it (.inLoop b) :: k
      | .it (.code (.scope b)) => .it (.code b) :: .it (.inScope b) :: k
      | _ => k
    | 2 => match h with
      | .it (.code (.cond _ a _)) => .it (.code a) :: k
      | _ => k
    | 3 => match h with
      | .it (.code (.cond _ _ b)) => .it (.code b) :: k
      | _ => k
    | 4 => match h with
      | .it (.code (.region _ o _)) => .ops o (dropN n (List.range o.size)) :: k
      | _ => k
    | 5 => match h with
      | .it (.code (.region _ o _)) => match plan P o with
        | some (cs, st) => match dropN n cs with
          | c :: cs => .drc o c cs (dropN (n + 1) st) :: k
          | [] => k
        | none => k
      | _ => k
    | _ => k
def moves (P : Program) : List Nat → List AIt → List AIt
  | [], k => k
  | x :: l, k => moves P l (mv P (x % 8) (x / 8) k)
def bodyOf (P : Program) (g : FuncId) : List AIt := match P.funcs[g]? with
  | some fn => match fn.body with
    | some c => [.it (.code c)]
    | none => []
  | none => []
def pN : Nat → List Nat → List Nat × List Nat
  | 0, l => ([], l)
  | _ + 1, [] => ([], [])
  | n + 1, d :: l => match pN n l with
    | (r, l) => (d :: r, l)
def pFs (P : Program) : Nat → List Nat → List AFr × List Nat
  | 0, l => ([], l)
  | n + 1, g :: sz :: nd :: l => match pN nd l with
    | (df, ns :: l) => match pSl ns l with
      | (sl, nm :: l) => match pN nm l with
        | (ms, l) => match pFs P n l with
          | (r, l) => (⟨g, mkTr sl, sz, moves P ms (bodyOf P g), none, df⟩ :: r, l)
      | (_, []) => ([], [])
    | (_, []) => ([], [])
  | _ + 1, l => ([], l)
/-- A state, as it is written. -/
structure Lit where
  fs : List AFr
  bl : List (Nat × Ob)
  n : Nat
def lit (P : Program) (x : Nat) : Lit := match toks 100000 x with
  | n :: nb :: nf :: l => match pBl nb l with
    | (bl, l) => match pFs P nf l with
      | (fs, _) => ⟨fs, bl, n⟩
  | _ => ⟨[], [], 0⟩
def fr0 : AFr := ⟨0, .lf, 0, [], none, []⟩
def Lit.st (l : Lit) : MSt := ⟨match l.fs with | [] => fr0 | f :: _ => f, match l.fs with | [] => [] | _ :: cs => cs, ⟨mkTr l.bl, l.n, 0⟩⟩
def eqO : Option AV → Option AV → Bool
  | none, none => true
  | some a, some b => eqA a b
  | _, _ => false
def eqTr : Tr AV → Tr AV → Bool
  | .lf, .lf => true
  | .nd l v r, .nd l' v' r' => match eqO v v', eqTr l l' with
    | true, true => eqTr r r'
    | _, _ => false
  | _, _ => false
def eqPs : List (AV × AV) → List (AV × AV) → Bool
  | [], [] => true
  | (a, b) :: l, (c, d) :: m => eqA a c && eqA b d && eqPs l m
  | _, _ => false
def eqOb : Ob → Ob → Bool
  | .c cs t sz ex, .c cs' t' sz' ex' => Nat.beq t t' && Nat.beq sz sz' && (ex == ex') && eqL cs cs'
  | .df, .df => true
  | .mp es, .mp es' => eqPs es es'
  | _, _ => false
def eqNs : List Nat → List Nat → Bool
  | [], [] => true
  | a :: l, b :: m => Nat.beq a b && eqNs l m
  | _, _ => false
def eqFr (a b : AFr) : Bool := match Nat.beq a.fn b.fn, Nat.beq a.sz b.sz, a.ro, b.ro, eqNs a.df b.df with
  | true, true, none, none, true => eqTr a.T b.T
  | _, _, _, _, _ => false
def eqFs : List AFr → List AFr → Bool
  | [], [] => true
  | a :: l, b :: m => match eqFr a b with
    | true => eqFs l m
    | false => false
  | _, _ => false
def eqBl (H : Hp) : List (Nat × Ob) → Bool
  | [] => true
  | (b, k) :: l => match Nat.blt b 1000000, H.get b with
    | true, some k' => match eqOb k' k with
      | true => eqBl H l
      | false => false
    | _, _ => false
def sameS (s : MSt) (l : Lit) : Bool := match l.fs, Nat.beq s.H.n l.n, Nat.beq s.H.r 0 with
  | f :: cs, true, true => match eqFr s.fr f, eqFs s.cs cs with
    | true, true => eqBl s.H l.bl
    | _, _ => false
  | _, _, _ => false
def tds (fs : List AFr) : List (List AIt) := fs.map (·.todo)
def sameR (r : Rn) (l : Lit) : Bool := match r with
  | .go s => sameS s l
  | _ => false
def tdR (r : Rn) : List (List AIt) := match r with
  | .go s => tds (s.fr :: s.cs)
  | _ => []
theorem eqNs_eq : ∀ {a b : List Nat}, eqNs a b = true → a = b
  | [], [], _ => rfl
  | [], _ :: _, h => by cases h
  | _ :: _, [], h => by cases h
  | a :: l, b :: m, h => by
    rw [eqNs, Bool.and_eq_true] at h
    rw [Nat.eq_of_beq_eq_true h.1, eqNs_eq h.2]
theorem eqO_eq {a b : Option AV} (h : eqO a b = true) : a = b := by
  cases a <;> cases b <;> first | rfl | (cases h; done) | rw [eqA_eq _ _ h]
theorem eqTr_eq : ∀ {a b : Tr AV}, eqTr a b = true → a = b
  | .lf, .lf, _ => rfl
  | .lf, .nd _ _ _, h => by cases h
  | .nd _ _ _, .lf, h => by cases h
  | .nd l v r, .nd l' v' r', h => by
    rw [eqTr] at h
    split at h
    · next h1 h2 => rw [eqO_eq h1, eqTr_eq h2, eqTr_eq h]
    · cases h
theorem eqPs_eq : ∀ {a b : List (AV × AV)}, eqPs a b = true → a = b
  | [], [], _ => rfl
  | [], _ :: _, h => by cases h
  | _ :: _, [], h => by cases h
  | (a, b) :: l, (c, d) :: m, h => by
    rw [eqPs, Bool.and_eq_true, Bool.and_eq_true] at h
    rw [eqA_eq _ _ h.1.1, eqA_eq _ _ h.1.2, eqPs_eq h.2]
theorem eqOb_eq {a b : Ob} (h : eqOb a b = true) : a = b := by
  unfold eqOb at h
  split at h
  · simp only [Bool.and_eq_true, beq_iff_eq] at h
    rw [Nat.eq_of_beq_eq_true h.1.1.1, Nat.eq_of_beq_eq_true h.1.1.2, h.1.2, eqL_eq _ _ h.2]
  · rfl
  · rw [eqPs_eq h]
  · cases h
theorem eqFr_eq {a b : AFr} (h : eqFr a b = true) (ht : a.todo = b.todo) : a = b := by
  obtain ⟨f1, T1, s1, t1, r1, d1⟩ := a
  obtain ⟨f2, T2, s2, t2, r2, d2⟩ := b
  unfold eqFr at h
  dsimp only at h ht
  split at h
  · next h1 h2 h3 => rw [Nat.eq_of_beq_eq_true h1, Nat.eq_of_beq_eq_true h2, eqNs_eq h3, eqTr_eq h, ht]
  · cases h
theorem eqFs_eq : ∀ {a b : List AFr}, eqFs a b = true → tds a = tds b → a = b
  | [], [], _, _ => rfl
  | [], _ :: _, h, _ => by cases h
  | _ :: _, [], h, _ => by cases h
  | a :: l, b :: m, h, ht => by
    rw [eqFs] at h
    rw [tds, tds, List.map_cons, List.map_cons] at ht
    injection ht with h1 h2
    split at h
    · next he => rw [eqFr_eq he h1, eqFs_eq h h2]
    · cases h
theorem mkTr_mem {α : Type} : ∀ (l : List (Nat × α)) (b : Nat) (k : α), (∀ p ∈ l, p.1 < 1000000) → (mkTr l).get b = some k → (b, k) ∈ l
  | [], b, k, _, h => by rw [mkTr, Tr.get_lf] at h; cases h
  | (c, j) :: l, b, k, hl, h => by
    rw [mkTr] at h
    by_cases e : b = c
    · subst e
      rw [Tr.get_set _ _ _ _ (FU_pow (hl (b, j) (by simp)))] at h
      injection h with h
      subst h
      simp
    · rw [Tr.get_set_ne _ _ _ _ _ e] at h
      exact List.mem_cons_of_mem _ (mkTr_mem l b k (fun p hp => hl p (by simp [hp])) h)
theorem eqBl_at {H : Hp} : ∀ {l : List (Nat × Ob)}, eqBl H l = true → ∀ p ∈ l, p.1 < 1000000 ∧ H.get p.1 = some p.2
  | [], _, p, hp => by simp at hp
  | (b, k) :: l, h, p, hp => by
    rw [eqBl] at h
    split at h
    · next k' h1 h2 =>
      split at h
      · next h3 =>
        rcases List.mem_cons.1 hp with rfl | hp
        · exact ⟨by simpa [Nat.blt_eq] using h1, by rw [h2, eqOb_eq h3]⟩
        · exact eqBl_at h p hp
      · cases h
    · cases h
section
variable {P : Program} {prim : FuncId → List AV → Option AV} {x x' : Gh} {L L' : Nat → Prop} {w w' w0 : World} {H H' : Hp} {lo base : Nat} {c0 : List Frame} {g g' : FuncId} {cs : List AFr} {fs : List Frame} {fr nf : AFr} {f : Frame}
theorem HR.less (h : HR base x L w H) (hn : H'.n = H.n) (hr : H'.r = H.r) (hH : ∀ b k, H'.get b = some k → H.get b = some k) : HR base x L w H' :=
  ⟨h.size, by rw [hn]; exact h.fin, by rw [hn, hr]; exact h.rn, fun b hb => by rw [hn]; exact h.lt b hb, fun b k hk => by rw [hn]; exact h.gn b k (hH b k hk), fun b k hk => h.at_ b k (hH b k hk), fun b k hk hl hb => h.ro b k (hH b k hk) hl (by rw [← hr]; exact hb), fun b k hk hl hb => h.rw_ b k (hH b k hk) hl (by rw [← hr]; exact hb), fun b c k l hk hl hb hc hbr hcr => h.inj b c k l (hH b k hk) (hH c l hl) hb hc (by rw [← hr]; exact hbr) (by rw [← hr]; exact hcr)⟩
theorem StkR.less : ∀ {cs : List AFr} {fs : List Frame} {hi : Nat}, StkR P x L H c0 hi cs fs → H'.n = H.n → H'.r = H.r → (∀ b k, H'.get b = some k → H.get b = some k) → StkR P x L H' c0 hi cs fs
  | [], _, _, h, _, _, _ => h
  | _ :: _, [], _, h, _, _, _ => h.elim
  | c :: cs, f :: fs, hi, ⟨lo', Hs, h1, h2, h3, h4, h5, h6⟩, hn, hr, hH => ⟨lo', Hs, h1, h2.trans hr.symm, by rw [hn]; exact h3, fun b hb hnL k hk => h4 b hb hnL k (hH b k hk), h5, h6.less hn hr hH⟩
theorem lit_out {m : Machine} {r : Rn} {l : Lit} (h : Out P base g c0 w0 m r) (h1 : sameR r l = true) (h2 : tdR r = tds l.fs) : Out P base g c0 w0 m (.go l.st) := by
  cases r with
  | done v H => cases h1
  | bad n => cases h1
  | go s =>
    obtain ⟨x, L, w, f, fs, hs, hR⟩ := h
    rw [sameR, sameS] at h1
    split at h1
    · next f2 cs2 hfs hn hr =>
      split at h1
      · next e1 e2 =>
        rw [tdR, hfs, tds, tds, List.map_cons, List.map_cons] at h2
        injection h2 with h2 h3
        have hF := eqFr_eq e1 h2
        have hC := eqFs_eq e2 h3
        obtain ⟨k1, ⟨lo, k2, k3⟩, k4, k5⟩ := hR
        have hb := eqBl_at h1
        have hH : ∀ b k, (l.st.H).get b = some k → s.H.get b = some k := fun b k hk => (hb _ (mkTr_mem l.bl b k (fun p hp => (hb p hp).1) hk)).2
        have hn' : l.st.H.n = s.H.n := (Nat.eq_of_beq_eq_true hn).symm
        have hr' : l.st.H.r = s.H.r := (Nat.eq_of_beq_eq_true hr).symm
        have e3 : l.st.fr = s.fr := by rw [hF]; simp only [Lit.st, hfs]
        have e4 : l.st.cs = s.cs := by rw [hC]; simp only [Lit.st, hfs]
        refine ⟨x, L, w, f, fs, hs, k1.less hn' hr' hH, ⟨lo, ?_, ?_⟩, by rw [e3, e4]; exact k4, k5⟩
        · rw [e3]
          exact k2.mono (Ext.refl _ _) (fun _ h => h) (fun b _ _ hnL => ⟨hnL, fun k hk => hH b k hk⟩) (by rw [hn']; exact Nat.le_refl _) hr'
        · rw [e4]
          exact k3.less hn' hr' hH
      · cases h1
    · cases h1
theorem run_out {m : Machine} (hP : PrimOk P prim) (hm : P.follows .mixedOrders = true) (n : Nat) {s : MSt} (h : Out P base g c0 w0 m (.go s)) : Out P base g c0 w0 m (aRun P prim n s) := by
  obtain ⟨x, L, w, f, fs, hs, hR⟩ := h
  exact Out.of_steps hs (aRun_out hP hm n hR)
/-- A piece of the run: from a state that is written to the next. -/
def Seg (P : Program) (prim : FuncId → List AV → Option AV) (n : Nat) (a b : Lit) : Prop := sameR (aRun P prim n a.st) b = true ∧ tdR (aRun P prim n a.st) = tds b.fs
theorem seg_out {m : Machine} (hP : PrimOk P prim) (hm : P.follows .mixedOrders = true) {n : Nat} {a b : Lit} (hs : Seg P prim n a b) (h : Out P base g c0 w0 m (.go a.st)) : Out P base g c0 w0 m (.go b.st) := lit_out (run_out hP hm n h) hs.1 hs.2
def isTrue : Rn → Bool
  | .done (.v (.bool b)) _ => b
  | _ => false
end
/-- A function without arguments, its run cut in pieces, gives true. -/
theorem calls_true {P : Program} {prim : FuncId → List AV → Option AV} (hP : PrimOk P prim) (hm : P.follows .mixedOrders = true) {g : FuncId} {a : Lit} {nf : AFr} (he : aEnter P g [] = some nf) (n : Nat) {w : World}
    (hall : ∀ (m : Machine) (c0 : List Frame), Out P w.heap.size g c0 w m (.go ⟨nf, [], ⟨.lf, 0, 0⟩⟩) → Out P w.heap.size g c0 w m (.go a.st)) (hend : isTrue (aRun P prim n a.st) = true) :
    Calls P g #[] w (fun e w' => e = .returned (.bool true) ∧ Below w.heap.size w w') := by
  intro cs
  have h0 : HR w.heap.size (fun _ => (0, 0)) (fun _ => False) w ⟨.lf, 0, 0⟩ := ⟨Nat.le_refl _, by decide, Nat.le_refl _, fun _ h => h.elim, fun b k hk => (by rw [Hp.get, Tr.get_lf] at hk; cases hk), fun _ _ _ h => h.elim, fun _ _ _ h => h.elim, fun _ _ _ h => h.elim, fun _ _ _ _ _ _ h => h.elim⟩
  obtain ⟨_, h1, h2⟩ := enter_fr (P := P) (H := ⟨.lf, 0, 0⟩) (x := fun _ => (0, 0)) (L := fun _ => False) (args := []) (by rw [okL]; trivial) he
  have hs : Out P w.heap.size g cs w (lone (Frame.enter P g #[] .normal) cs w) (.go ⟨nf, [], ⟨.lf, 0, 0⟩⟩) := ⟨_, _, w, _, cs, .refl _ _, h0, ⟨0, by simpa only [concL] using h1, rfl⟩, h2, Below.refl _ _⟩
  have hr := run_out hP hm n (hall _ cs hs)
  cases hq : aRun P prim n a.st with
  | go s => rw [hq] at hend; cases hend
  | bad k => rw [hq] at hend; cases hend
  | done v H =>
    rw [hq] at hend hr
    obtain ⟨x, L, w', f, g1, g2, g3, g4, g5, g6⟩ := hr
    have hv : v = .v (.bool true) := by
      unfold isTrue at hend
      split at hend
      · next b h0 => injection h0 with h0 _; rw [h0, hend]
      · cases hend
    subst hv
    rw [conc_v] at g2
    exact ⟨.returned (.bool true), w', f, ⟨rfl, g6⟩, g1, g3, g2⟩
end Go.Proofs.YtklanoppbbaolaaGreat
