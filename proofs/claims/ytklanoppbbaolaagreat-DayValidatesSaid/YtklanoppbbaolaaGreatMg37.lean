/- Texts in one: Ew15, Ew16. -/
import Derived.RangeFuncNested
import Derived.Test.YtklanoppbbaolaaGreatMg36
/- A closed run: frames and stacks. No program is named here. -/
namespace Go.Proofs.YtklanoppbbaolaaGreat
open Go Go.RowKit
set_option linter.unusedVariables false
set_option linter.unusedSimpArgs false
def mkB (x : Gh) (fn : FuncId) (ro : Option Nat) : Frame := { fn := fn, tmps := #[], todo := [], defers := [], mode := .run, kind := .normal, roundOf := ro.map fun l => (x l).1 }
def mkD (x : Gh) (df : List Nat) : List Deferred := df.map fun b => { target := .collected (x b).1, args := #[] }
def itC (x : Gh) : AIt → Item
  | .it i => i
  | .ops o l => .inRegion o l
  | .rf b => .inRangeFunc (x b).1
  | .erf b => .endRangeFunc (x b).1
  | .drg _ _ _ => .beginRound
  | .drc _ _ _ _ => .beginRound
def tdC (x : Gh) (k : List AIt) : List Item := k.map (itC x)
def itOk (L : Nat → Prop) : AIt → Prop
  | .rf b => L b
  | .erf b => L b
  | .drg _ _ _ => False
  | .drc _ _ _ _ => False
  | _ => True
def tdOk (L : Nat → Prop) (k : List AIt) : Prop := ∀ i ∈ k, itOk L i
theorem itC_ext {x x' : Gh} {L : Nat → Prop} (hx : Ext L x x') {i : AIt} (h : itOk L i) : itC x' i = itC x i := by
  cases i <;> simp only [itC]
  · rw [hx _ h]
  · rw [hx _ h]
theorem tdC_ext {x x' : Gh} {L : Nat → Prop} (hx : Ext L x x') {k : List AIt} (h : tdOk L k) : tdC x' k = tdC x k := List.map_congr_left fun i hi => itC_ext hx (h i hi)
theorem itOk_mono {L L' : Nat → Prop} (hL : Sub L L') {i : AIt} (h : itOk L i) : itOk L' i := by
  cases i <;> first | exact hL _ h | exact h
theorem tdOk_mono {L L' : Nat → Prop} (hL : Sub L L') {k : List AIt} (h : tdOk L k) : tdOk L' k := fun i hi => itOk_mono hL (h i hi)
theorem tdOk_cons {L : Nat → Prop} {i : AIt} {k : List AIt} : tdOk L (i :: k) ↔ itOk L i ∧ tdOk L k := by simp [tdOk]
theorem mkB_ext {x x' : Gh} {L : Nat → Prop} (hx : Ext L x x') (fn : FuncId) {ro : Option Nat} (h : ∀ l, ro = some l → L l) : mkB x' fn ro = mkB x fn ro := by
  cases ro with
  | none => rfl
  | some l => simp only [mkB, Option.map_some, hx l (h l rfl)]
theorem mkD_ext {x x' : Gh} {L : Nat → Prop} (hx : Ext L x x') {df : List Nat} (h : ∀ b ∈ df, L b) : mkD x' df = mkD x df := List.map_congr_left fun b hb => by rw [hx b (h b hb)]
/-- A frame's slots and what it has still to do. -/
inductive BodyR (P : Program) (x : Gh) (L : Nat → Prop) (H : Hp) (lo : Nat) (fr : AFr) (tm : Array Value) (td : List Item) : Prop
  | plain (h1 : td = tdC x fr.todo) (h2 : tdOk L fr.todo) (h3 : ∀ d, slotR x L fr.T tm d) (h4 : tm.size = fr.sz)
  | drg {o : Array Oper} {cs : List Nat} {st : List (List Nat × List Nat)} {k : List AIt} {rest : List Nat} {M W : Tr Nat} {prev : Option Nat} {Ev : Nat} {T0 : Tr AV} {pd : List (Nat × Nat)} {pre : List Nat}
      (h1 : fr.todo = .drg o cs st :: k) (h2 : td = .inRegion o rest :: tdC x k) (h3 : tdOk L k) (h4 : okW W o.toList 0 = true) (h5 : ckP P M W o.toList prev Ev cs st = true) (h6 : ∀ c, prev = some c → c ∈ pre)
      (h7 : ∀ i op, o[i]? = some op → isCh P op = true → Ev.testBit i = true → i ∈ pre) (h8 : Rg P o M W T0 fr.T Ev x L H lo fr.sz pd tm pre rest)
  | drc {o : Array Oper} {c : Nat} {cs : List Nat} {st : List (List Nat × List Nat)} {k : List AIt} {r2 : List Nat} {M W : Tr Nat} {Ev : Nat} {T0 : Tr AV} {pd : List (Nat × Nat)} {pre : List Nat} {op : Oper}
      (h1 : fr.todo = .drc o c cs st :: k) (h2 : td = .inRegion o (c :: r2) :: tdC x k) (h3 : tdOk L k) (h4 : okW W o.toList 0 = true) (h5 : ckP P M W o.toList (some c) (Ev ||| (1 <<< c)) cs st = true) (h6 : o[c]? = some op)
      (h7 : ∀ i op, o[i]? = some op → isCh P op = true → Ev.testBit i = true → i ∈ pre) (h8 : Ev.testBit c = false) (h9 : rdB M W Ev c false op.op.operands.toList = true) (h10 : grdB M o.toList Ev c op = true) (h11 : Rg P o M W T0 fr.T Ev x L H lo fr.sz pd tm pre (c :: r2))
structure FrR (P : Program) (x : Gh) (L : Nat → Prop) (H : Hp) (lo : Nat) (fr : AFr) (f : Frame) : Prop where
  shape : ∃ tm td, f = (mkB x fr.fn fr.ro).atR ⟨tm, mkD x fr.df⟩ td ∧ BodyR P x L H lo fr tm td
  sz : fr.sz < 1000000
  ro : ∀ l, fr.ro = some l → L l
  df : ∀ b ∈ fr.df, L b
  lo : lo ≤ H.n
section
variable {P : Program} {x x' : Gh} {L L' : Nat → Prop} {w w' : World} {H H' : Hp} {lo base : Nat} {fr fr' : AFr} {f : Frame}
theorem FrR.mono (h : FrR P x L H lo fr f) (hx : Ext L x x') (hL : Sub L L') (hst : ∀ b, lo ≤ b → b < H.n → ¬ L b → ¬ L' b ∧ ∀ k, H'.get b = some k → H.get b = some k) (hn : H.n ≤ H'.n) (hr : H'.r = H.r) : FrR P x' L' H' lo fr f := by
  obtain ⟨⟨tm, td, h1, h2⟩, h3, h4, h5, h6⟩ := h
  refine ⟨⟨tm, td, by rw [mkB_ext hx fr.fn h4, mkD_ext hx h5]; exact h1, ?_⟩, h3, fun l hl => hL l (h4 l hl), fun b hb => hL b (h5 b hb), Nat.le_trans h6 hn⟩
  cases h2 with
  | plain g1 g2 g3 g4 => exact .plain (by rw [tdC_ext hx g2]; exact g1) (tdOk_mono hL g2) (fun d => (g3 d).mono hx hL) g4
  | drg g1 g2 g3 g4 g5 g6 g7 g8 => exact .drg g1 (by rw [tdC_ext hx g3]; exact g2) (tdOk_mono hL g3) g4 g5 g6 g7 (g8.mono hx hL hst hn hr)
  | drc g1 g2 g3 g4 g5 g6 g7 g8 g9 g10 g11 => exact .drc g1 (by rw [tdC_ext hx g3]; exact g2) (tdOk_mono hL g3) g4 g5 g6 g7 g8 g9 g10 (g11.mono hx hL hst hn hr)
theorem FrR.up (h : FrR P x L H lo fr f) (n : Nl H.n base x L w H x' L' w' H') : FrR P x' L' H' lo fr f :=
  h.mono n.ext n.sub (fun b _ hb hnL => ⟨(n.stay b hb hnL).1, fun k hk => by rw [← (n.stay b hb hnL).2]; exact hk⟩) n.le n.r
theorem putD_slot {T T' : Tr AV} {tm : Array Value} {d : Option Tmp} {a : AV} {df : List Deferred} (hs : ∀ e, slotR x L T tm e) (hsz : tm.size < 1000000) (hok : a.ok x L) (hp : putD T tm.size d a = some T') :
    (∀ e, slotR x L T' (Act.put ⟨tm, df⟩ d (conc x a)).tmps e) ∧ (Act.put ⟨tm, df⟩ d (conc x a)).tmps.size = tm.size := by
  unfold putD at hp
  split at hp
  · injection hp with hp
    subst hp
    exact ⟨hs, rfl⟩
  · next d =>
    split at hp
    · next hl =>
      injection hp with hp
      subst hp
      have hl : d < tm.size := by simpa [Nat.blt_eq] using hl
      refine ⟨fun e c hc => ?_, by simp [Act.put]⟩
      show (tm.setIfInBounds d (conc x a)).getD e undef = _ ∧ _
      rw [slot_put hl]
      by_cases hde : d = e
      · subst hde
        rw [Tr.get_set _ _ _ _ (FU_pow (Nat.lt_trans hl hsz))] at hc
        injection hc with hc
        subst hc
        rw [if_pos rfl]
        exact ⟨rfl, hok⟩
      · rw [Tr.get_set_ne _ _ _ _ _ (fun q => hde q.symm)] at hc
        rw [if_neg hde]
        exact hs e c hc
    · cases hp
/-- A frame goes on with a value. -/
theorem FrR.fin (h : FrR P x L H lo fr f) {a : AV} (hok : a.ok x L) (hf : aFin fr a = some fr') : FrR P x L H lo fr' (f.finish (conc x a)) ∧ fr'.fn = fr.fn ∧ fr'.ro = fr.ro := by
  obtain ⟨⟨tm, td, h1, h2⟩, h3, h4, h5, h6⟩ := h
  subst h1
  cases h2 with
  | plain g1 g2 g3 g4 =>
    subst g1
    unfold aFin at hf
    split at hf
    · next o i l k htd =>
      rw [htd, tdOk_cons] at g2
      split at hf
      · next op hop =>
        rw [nthL_eq, ops_at] at hop
        split at hf
        · next T hT =>
          injection hf with hf
          subst hf
          rw [← g4] at hT h3
          obtain ⟨e1, e2⟩ := putD_slot (df := mkD x fr.df) g3 h3 hok hT
          refine ⟨⟨⟨_, tdC x (.ops o l :: k), ?_, .plain rfl (tdOk_cons.2 ⟨trivial, g2.2⟩) e1 (by rw [e2]; exact g4)⟩, by rw [← g4]; exact h3, h4, h5, h6⟩, rfl, rfl⟩
          rw [htd]
          show ((mkB x fr.fn fr.ro).atR ⟨tm, mkD x fr.df⟩ (.inRegion o (i :: l) :: tdC x k)).finish (conc x a) = _
          rw [finish_at hop, act_put]
          rfl
        · cases hf
      · cases hf
    · next o c cs st k htd =>
      rw [htd, tdOk_cons] at g2
      exact g2.1.elim
    · next b k htd =>
      rw [htd, tdOk_cons] at g2
      injection hf with hf
      subst hf
      refine ⟨⟨⟨tm, tdC x (.erf b :: k), ?_, .plain rfl (tdOk_cons.2 ⟨g2.1, g2.2⟩) g3 g4⟩, h3, h4, h5, h6⟩, rfl, rfl⟩
      rw [htd]
      exact finish_atR_inRangeFunc _ _
    · cases hf
  | drg g1 g2 g3 g4 g5 g6 g7 g8 => unfold aFin at hf; rw [g1] at hf; cases hf
  | @drc o c cs st k r2 M W Ev T0 pd pre op g1 g2 g3 g4 g5 g6 g7 g8 g9 g10 g11 =>
    subst g2
    unfold aFin at hf
    rw [g1] at hf
    dsimp only at hf
    rw [nthL_eq, ops_at.2 g6] at hf
    dsimp only at hf
    split at hf
    · next T hT =>
      injection hf with hf
      subst hf
      have R2 := g11.chain (df := mkD x fr.df) g4 h3 g6 g8 hok hT
      refine ⟨⟨⟨_, .inRegion o r2 :: tdC x k, ?_, .drg rfl rfl g3 g4 g5 (fun c' hc => by injection hc with hc; subst hc; simp) (fun i op' ho hc he => ?_) R2⟩, h3, h4, h5, h6⟩, rfl, rfl⟩
      · rw [finish_at g6, act_put]
      · rcases (bit_or _ _ _).1 he with he | rfl
        · exact List.mem_cons_of_mem _ (g7 i op' ho hc he)
        · simp
    · cases hf
/-- The frame is at an operation. -/
theorem FrR.head (h : FrR P x L H lo fr f) {o : Array Oper} {i : Nat} {op : Oper} (ho : o[i]? = some op) (ht : (∃ l k, fr.todo = .ops o (i :: l) :: k) ∨ ∃ cs st k, fr.todo = .drc o i cs st :: k) :
    ∃ (b : Frame) (tm : Array Value) (df : List Deferred) (rest : List Nat) (kk : List Item), f = b.atR ⟨tm, df⟩ (.inRegion o (i :: rest) :: kk) ∧ OpR x L fr.T (Act.eval ⟨tm, df⟩) op.op.operands.toList ∧ ∀ r, wantA o fr.T op = some r → Region.wanted op (yielded o tm) = r := by
  obtain ⟨⟨tm, td, h1, h2⟩, h3, h4, h5, h6⟩ := h
  cases h2 with
  | plain g1 g2 g3 g4 =>
    rcases ht with ⟨l, k, htd⟩ | ⟨cs, st, k, htd⟩
    · refine ⟨_, tm, _, l, tdC x k, by rw [h1, g1, htd]; rfl, fun y hy a ha => ?_, fun r hr => want_sound (fun j q d _ _ => g3 d) hr⟩
      cases y with
      | tmp d => exact g3 d a ha
      | const v => rw [evO] at ha; injection ha with ha; subst ha; exact ⟨by rw [conc]; rfl, by simp only [AV.ok]⟩
      | func f => rw [evO] at ha; injection ha with ha; subst ha; exact ⟨by rw [evO_fn]; rfl, by simp [AV.ok, okL]⟩
      | global g => rw [evO] at ha; cases ha
    · rw [htd, tdOk_cons] at g2
      exact g2.1.elim
  | drg g1 g2 g3 g4 g5 g6 g7 g8 => rcases ht with ⟨l, k, htd⟩ | ⟨cs, st, k, htd⟩ <;> (rw [g1] at htd; injection htd with htd _; cases htd)
  | drc g1 g2 g3 g4 g5 g6 g7 g8 g9 g10 g11 =>
    rcases ht with ⟨l, k, htd⟩ | ⟨cs, st, k, htd⟩
    · rw [g1] at htd; injection htd with htd _; cases htd
    · rw [g1] at htd
      injection htd with e1 e2
      injection e1 with e3 e4 e5 e6
      subst e3 e4
      rw [ho] at g6
      injection g6 with g6
      subst g6
      exact ⟨_, tm, _, _, _, by rw [h1, g2], g11.opr g4 (g11.ag g4 g9), fun r hr => g11.want (fun j q hg => grdB_at g10 hg) hr⟩
end
/-- The frames below; hi is the count of blocks when the callee began. -/
def StkR (P : Program) (x : Gh) (L : Nat → Prop) (H : Hp) (c0 : List Frame) : Nat → List AFr → List Frame → Prop
  | _, [], fs => fs = c0
  | _, _ :: _, [] => False
  | hi, c :: cs, f :: fs => ∃ lo Hs, Hs.n = hi ∧ Hs.r = H.r ∧ hi ≤ H.n ∧ (∀ b, b < hi → ¬ L b → ∀ k, H.get b = some k → Hs.get b = some k) ∧ FrR P x L Hs lo c f ∧ StkR P x L H c0 lo cs fs
section
variable {P : Program} {x x' : Gh} {L L' : Nat → Prop} {w w' : World} {H H' : Hp} {lo base : Nat} {c0 : List Frame}
theorem StkR.up : ∀ {cs : List AFr} {fs : List Frame} {hi lo : Nat}, StkR P x L H c0 hi cs fs → hi ≤ lo → Nl lo base x L w H x' L' w' H' → StkR P x' L' H' c0 hi cs fs
  | [], _, _, _, h, _, _ => h
  | _ :: _, [], _, _, h, _, _ => h.elim
  | c :: cs, f :: fs, hi, lo, ⟨lo', Hs, h1, h2, h3, h4, h5, h6⟩, hl, n => by
    refine ⟨lo', Hs, h1, h2.trans n.r.symm, Nat.le_trans h3 n.le, fun b hb hnL k hk => ?_, h5.mono n.ext n.sub (fun b _ hb hnL => ⟨(n.stay b (by omega) hnL).1, fun _ h => h⟩) (Nat.le_refl _) rfl, h6.up (lo := lo) (by have := h5.lo; omega) n⟩
    by_cases hLb : L b
    · exact absurd (n.sub b hLb) hnL
    · rw [(n.stay b (by omega) hLb).2] at hk
      exact h4 b hb hLb k hk
/-- The frame below goes on. -/
theorem StkR.pop {c : AFr} {cs : List AFr} {fs : List Frame} {hi : Nat} (h : StkR P x L H c0 hi (c :: cs) fs) : ∃ f fs' lo, fs = f :: fs' ∧ lo ≤ hi ∧ FrR P x L H lo c f ∧ StkR P x L H c0 lo cs fs' := by
  cases fs with
  | nil => exact h.elim
  | cons f fs =>
    obtain ⟨lo, Hs, h1, h2, h3, h4, h5, h6⟩ := h
    exact ⟨f, fs, lo, rfl, by have := h5.lo; omega, h5.mono (Ext.refl _ _) (fun _ h => h) (fun b _ hb hnL => ⟨hnL, h4 b (by omega) hnL⟩) (by omega) h2.symm, h6⟩
theorem StkR.push {c : AFr} {cs : List AFr} {f : Frame} {fs : List Frame} (hF : FrR P x L H lo c f) (h : StkR P x L H c0 lo cs fs) : StkR P x L H c0 H.n (c :: cs) (f :: fs) :=
  ⟨lo, H, rfl, rfl, Nat.le_refl _, fun _ _ _ _ h => h, hF, h⟩
end
def botF : AFr → List AFr → FuncId
  | fr, [] => fr.fn
  | _, c :: cs => botF c cs
/-- The data's state and the machine's. -/
structure StR (P : Program) (base : Nat) (g : FuncId) (c0 : List Frame) (w0 : World) (x : Gh) (L : Nat → Prop) (w : World) (s : MSt) (f : Frame) (fs : List Frame) : Prop where
  hr : HR base x L w s.H
  fr : ∃ lo, FrR P x L s.H lo s.fr f ∧ StkR P x L s.H c0 lo s.cs fs
  bot : botF s.fr s.cs = g
  below : Below base w0 w
/-- What is asked of a result of the data's machine. -/
def Out (P : Program) (base : Nat) (g : FuncId) (c0 : List Frame) (w0 : World) (m : Machine) : Rn → Prop
  | .go s => ∃ x L w f fs, Steps P m (lone f fs w) ∧ StR P base g c0 w0 x L w s f fs
  | .done v H => ∃ x L w f, Steps P m (lone f c0 w) ∧ f.leaving P w (.returned (conc x v)) ∧ f.fn = g ∧ v.ok x L ∧ HR base x L w H ∧ Below base w0 w
  | .bad _ => True
theorem Out.of_steps {P : Program} {base : Nat} {g : FuncId} {c0 : List Frame} {w0 : World} {m m' : Machine} {r : Rn} (hs : Steps P m m') (h : Out P base g c0 w0 m' r) : Out P base g c0 w0 m r := by
  cases r with
  | go s => obtain ⟨x, L, w, f, fs, h1, h2⟩ := h; exact ⟨x, L, w, f, fs, hs.trans h1, h2⟩
  | done v H => obtain ⟨x, L, w, f, h1, h2⟩ := h; exact ⟨x, L, w, f, hs.trans h1, h2⟩
  | bad n => trivial
section
variable {P : Program} {x x' : Gh} {L L' : Nat → Prop} {w w' w0 : World} {H H' : Hp} {lo base : Nat} {c0 : List Frame} {g : FuncId} {cs : List AFr} {fs : List Frame} {fr : AFr} {f : Frame}
/-- The top frame goes on with a value. -/
theorem fin_out (h : HR base x L w H) (hF : FrR P x L H lo fr f) (hS : StkR P x L H c0 lo cs fs) (hb : botF fr cs = g) (hbl : Below base w0 w) {a : AV} (hok : a.ok x L) : Out P base g c0 w0 (lone (f.finish (conc x a)) fs w) (Go.Proofs.YtklanoppbbaolaaGreat.pop a (fr :: cs) H) := by
  unfold Go.Proofs.YtklanoppbbaolaaGreat.pop
  dsimp only
  split
  · next fr' hf =>
    obtain ⟨h1, h2, h3⟩ := hF.fin hok hf
    exact ⟨x, L, w, _, fs, .refl _ _, h, ⟨lo, h1, hS⟩, by rw [← hb]; cases cs <;> simp only [botF]; exact h2, hbl⟩
  · trivial
end
end Go.Proofs.YtklanoppbbaolaaGreat
/- A closed run: operations, calls, returns. No program is named here. -/
namespace Go.Proofs.YtklanoppbbaolaaGreat
open Go Go.RowKit
set_option linter.unusedVariables false
set_option linter.unusedSimpArgs false
/-- Calls that are known otherwise. -/
def PrimOk (P : Program) (prim : FuncId → List AV → Option AV) : Prop := ∀ g args v, prim g args = some v → (∃ fn c, P.funcs[g]? = some fn ∧ fn.body = some c ∧ (fn.name == "runtime.NumGoroutine") = false) ∧
  ∀ (base : Nat) (x : Gh) (L : Nat → Prop) (w : World) (H : Hp), HR base x L w H → okL x L args → v.ok x L ∧ Calls P g (concL x args).toArray w (fun e w' => e = .returned (conc x v) ∧ HR base x L w' H ∧ Below base w w')
section
variable {P : Program} {prim : FuncId → List AV → Option AV} {x x' : Gh} {L L' : Nat → Prop} {w w' w0 : World} {H H' : Hp} {lo base : Nat} {c0 : List Frame} {g g' : FuncId} {cs : List AFr} {fs : List Frame} {fr nf : AFr} {f : Frame}
theorem initT_at : ∀ (args : List AV) (k : Nat) (T : Tr AV) (d : Nat), k + args.length < 1000000 → (initT args k T).get d = if k ≤ d ∧ d < k + args.length then args[d - k]? else T.get d
  | [], k, T, d, _ => by rw [if_neg (by simp)]; rfl
  | a :: l, k, T, d, h => by
    rw [List.length_cons] at h
    rw [initT, initT_at l (k + 1) _ d (by omega), List.length_cons]
    by_cases hd : d = k
    · subst hd
      rw [if_neg (by omega), if_pos (by omega), Nat.sub_self, List.getElem?_cons_zero]
      exact Tr.get_set _ _ _ _ (FU_pow (by omega))
    · by_cases hc : k + 1 ≤ d ∧ d < k + 1 + l.length
      · rw [if_pos hc, if_pos (by omega), show d - k = (d - (k + 1)) + 1 by omega, List.getElem?_cons_succ]
      · rw [if_neg hc, if_neg (by omega), Tr.get_set_ne _ _ _ _ _ hd]
theorem concL_at (x : Gh) (l : List AV) (i : Nat) : (concL x l)[i]? = (l[i]?).map (conc x) := by rw [concL_map, List.getElem?_map]
theorem run_callFunc_in {f : FuncId} {fn : Func} {c : Code} (hf : P.funcs[f]? = some fn) (hb : fn.body = some c) (hname : (fn.name == "runtime.NumGoroutine") = false) (args : Array Value) (w : World) :
    (callFunc f args).run P w = .ok (.enter f args) w := by
  have h1 : fn.name ≠ "runtime.NumGoroutine" := by simpa using hname
  simp [callFunc, hf, h1, hb]
/-- A function is entered. -/
theorem enter_fr {args : List AV} (hok : okL x L args) (he : aEnter P g args = some nf) : (∃ fn c, P.funcs[g]? = some fn ∧ fn.body = some c ∧ (fn.name == "runtime.NumGoroutine") = false) ∧
    FrR P x L H H.n nf (Frame.enter P g (concL x args).toArray .normal) ∧ nf.fn = g := by
  unfold aEnter at he
  split at he
  · next fn hfn =>
    split at he
    · next c hb hname =>
      split at he
      · next hlt =>
        injection he with he
        subst he
        have hlt : Nat.max args.length fn.ntmps < 1000000 := by rw [← lenL_eq]; simpa [Nat.blt_eq] using hlt
        refine ⟨⟨fn, c, hfn, hb, hname⟩, ⟨⟨(concL x args).toArray ++ Array.replicate (fn.ntmps - (concL x args).toArray.size) undef, [.code c], ?_, .plain rfl (fun i hi => ?_) (fun d a ha => ?_) ?_⟩, ?_, (fun l hl => by cases hl), (fun b hb => by simp at hb), Nat.le_refl _⟩, rfl⟩
        · simp [Frame.enter, hfn, hb, mkB, mkD, Frame.atR]
        · simp at hi; subst hi; trivial
        · dsimp only at ha
          have hl1 : args.length < 1000000 := Nat.lt_of_le_of_lt (Nat.le_max_left _ _) hlt
          rw [initT_at args 0 .lf d (by omega)] at ha
          split at ha
          · next hd =>
            rw [Nat.sub_zero] at ha
            refine ⟨?_, okL_iff.1 hok a (List.mem_of_getElem? ha)⟩
            rw [Array.getD_eq_getD_getElem?, Array.getElem?_append_left (by simp [concL_len]; omega)]
            simp [concL_at, ha]
          · cases ha
        · show _ = Nat.max (lenL args) fn.ntmps
          rw [lenL_eq]
          have : Nat.max args.length fn.ntmps = max args.length fn.ntmps := rfl
          rw [this]
          simp [concL_len]
          omega
        · show Nat.max (lenL args) fn.ntmps < 1000000
          rw [lenL_eq]; exact hlt
      · cases he
    · cases he
  · cases he
theorem botF_push (nf fr : AFr) (cs : List AFr) : botF nf (fr :: cs) = botF fr cs := rfl
/-- A call of a function. -/
theorem callF_out (hP : PrimOk P prim) (h : HR base x L w H) (hF : FrR P x L H lo fr f) (hS : StkR P x L H c0 lo cs fs) (hb : botF fr cs = g') (hbl : Below base w0 w) {args : List AV} (hok : okL x L args) :
    (∃ n, callF P prim fr cs H g args = .bad n) ∨ ((∃ fn c, P.funcs[g]? = some fn ∧ fn.body = some c ∧ (fn.name == "runtime.NumGoroutine") = false) ∧ Out P base g' c0 w0 (lone (Frame.enter P g (concL x args).toArray .normal) (f :: fs) w) (callF P prim fr cs H g args)) := by
  unfold callF
  split
  · next v hv =>
    obtain ⟨h1, h2⟩ := hP g args v hv
    obtain ⟨h3, h4⟩ := h2 base x L w H h hok
    refine .inr ⟨h1, ?_⟩
    obtain ⟨e, w', fr', ⟨rfl, hr, hbw⟩, hst, hfn, hlv⟩ := h4 (f :: fs)
    exact Out.of_steps (hst.trans (.one (step_leave_returned hlv))) (fin_out hr hF hS hb (hbl.trans hbw) h3)
  · split
    · next nf hn =>
      obtain ⟨h1, h2, h3⟩ := enter_fr (H := H) hok hn
      exact .inr ⟨h1, x, L, w, _, f :: fs, .refl _ _, h, ⟨H.n, h2, hS.push hF⟩, hb, hbl⟩
    · exact .inl ⟨8, rfl⟩
theorem setPs_slot : ∀ (ps : List Tmp) (asg : List AV) (T : Tr AV) (tm : Array Value), (∀ d, slotR x L T tm d) → tm.size < 1000000 → allLt tm.size ps = true → okL x L asg → 
    (∀ d, slotR x L (setPs ps asg T) ((ps.zip (concL x asg)).foldl (fun tm p => tm.setIfInBounds p.1 p.2) tm) d) ∧ ((ps.zip (concL x asg)).foldl (fun tm p => tm.setIfInBounds p.1 p.2) tm).size = tm.size
  | [], asg, T, tm, hs, _, _, _ => by cases asg <;> exact ⟨hs, rfl⟩
  | d :: ps, [], T, tm, hs, _, _, _ => by simp only [concL, List.zip_nil_right]; exact ⟨hs, rfl⟩
  | d :: ps, a :: asg, T, tm, hs, hsz, hl, hok => by
    rw [allLt] at hl
    split at hl
    · next hd =>
      have hd : d < tm.size := by simpa [Nat.blt_eq] using hd
      rw [okL] at hok
      have h1 : ∀ e, slotR x L (T.set FU d (some a)) (tm.setIfInBounds d (conc x a)) e := fun e c hc => by
        rw [slot_put hd]
        by_cases hde : d = e
        · subst hde
          rw [Tr.get_set _ _ _ _ (FU_pow (Nat.lt_trans hd hsz))] at hc
          injection hc with hc
          subst hc
          rw [if_pos rfl]
          exact ⟨rfl, hok.1⟩
        · rw [Tr.get_set_ne _ _ _ _ _ (fun q => hde q.symm)] at hc
          rw [if_neg hde]
          exact hs e c hc
      obtain ⟨e1, e2⟩ := setPs_slot ps asg (T.set FU d (some a)) (tm.setIfInBounds d (conc x a)) h1 (by simpa using hsz) (by simpa using hl) hok.2
      simp only [concL, List.zip_cons_cons, List.foldl_cons, setPs]
      exact ⟨e1, by rw [e2]; simp⟩
    · cases hl
/-- A loop's body is called. -/
theorem yield_fr (h : HR base x L w H) {l : Nat} (hL : L l) {args : List AV} (hok : okL x L args) (hy : aYield H l args = some nf) : ∃ fn tm asg bd, (Instr.yield (x l).1 (concL x args).toArray).run P w = .ok (.round (x l).1 fn tm asg bd) w ∧ FrR P x L H H.n nf (Frame.round (x l).1 fn tm asg bd .normal) := by
  unfold aYield at hy
  split at hy
  · next st pend fn T tz ps asg bd d hg =>
    split at hy
    · next h1 h2 =>
      injection hy with hy
      subst hy
      rw [Bool.and_eq_true] at h2
      have hlen : args.length = ps.size := by have := Nat.eq_of_beq_eq_true h1; rw [lenL_eq, lenL_eq] at this; simpa using this
      obtain ⟨tm, g1, g2, g3, g4⟩ := h.at_ l _ hg hL
      have hr := run_yield (P := P) (args := (concL x args).toArray) g1 (by simp [concL_len, hlen])
      refine ⟨_, _, _, _, hr, ?_⟩
      have htz : tz < 1000000 := by simpa [Nat.blt_eq] using h2.1
      subst g3
      obtain ⟨e1, e2⟩ := setPs_slot (x := x) (L := L) ps.toList args T tm g2 htz h2.2 hok
      have hfold : (ps.zip (concL x args).toArray).foldl (fun tmps (p : Tmp × Value) => tmps.setIfInBounds p.1 p.2) tm = (ps.toList.zip (concL x args)).foldl (fun tm p => tm.setIfInBounds p.1 p.2) tm := by
        rw [← Array.foldl_toList]
        simp
      dsimp only
      rw [hfold]
      refine ⟨⟨_, [.code asg, .beginRound, .code bd], ?_, .plain rfl (fun i hi => ?_) e1 e2⟩, htz, fun l' hl' => ?_, (fun b hb => by simp at hb), Nat.le_refl _⟩
      · simp [Frame.round, mkB, mkD, Frame.atR]
      · simp at hi; rcases hi with rfl | rfl | rfl <;> trivial
      · injection hl' with hl'; subst hl'; exact hL
    · cases hy
  · cases hy
theorem oneOp_out (hP : PrimOk P prim) (h : HR base x L w H) (hF : FrR P x L H lo fr f) (hS : StkR P x L H c0 lo cs fs) (hb : botF fr cs = g) (hbl : Below base w0 w) {o : Array Oper} {i : Nat} {op : Oper} (ho : o[i]? = some op)
    {b : Frame} {tm : Array Value} {df : List Deferred} {rest : List Nat} {kk : List Item} (hf : f = b.atR ⟨tm, df⟩ (.inRegion o (i :: rest) :: kk)) (hop : OpR x L fr.T (Act.eval ⟨tm, df⟩) op.op.operands.toList) (hw : Region.wanted op (yielded o tm) = true) :
    Out P base g c0 w0 (lone f fs w) (oneOp P prim fr cs H op) := by
  have val : ∀ (x' : Gh) (L' : Nat → Prop) (w' : World) (H' : Hp) (a : AV), ((execOp (Act.eval ⟨tm, df⟩) op).run P w = .ok (.value (conc x' a)) w' ∨ ((execOp (Act.eval ⟨tm, df⟩) op).run P w = .ok .skip w' ∧ a = UV)) → (∀ c, op.op ≠ .defer c) → a.ok x' L' → Nx base x L w H x' L' w' H' → Out P base g c0 w0 (lone f fs w) (Go.Proofs.YtklanoppbbaolaaGreat.pop a (fr :: cs) H') := fun x' L' w' H' a hr hn hok nx => by
    refine Out.of_steps (.one ?_) (fin_out nx.hr (hF.up (nx.toNl (Nat.le_refl _))) (hS.up (Nat.le_refl _) (nx.toNl hF.lo)) hb (hbl.trans nx.below) hok)
    subst hf
    rw [finish_at ho]
    rcases hr with hr | ⟨hr, rfl⟩
    · exact stepR_value ho hw hn hr
    · rw [conc_UV]
      exact stepR_skipped ho hw hn hr
  unfold oneOp
  split
  · split
    · next a ha =>
      obtain ⟨h1, h2⟩ := aPure_sound (P := P) (w := w) ha hop
      exact val x L w H a (.inl h1) (aPure_nd ha) h2 (Nx.refl h)
    · trivial
  · split
    · next a ha =>
      obtain ⟨h1, h2⟩ := aRead_sound (P := P) h ha hop
      exact val x L w H a (.inl h1) (aRead_nd ha) h2 (Nx.refl h)
    · trivial
  · split
    · next ob mk ha hn =>
      have hnL : ¬ L H.n := fun q => Nat.lt_irrefl _ (h.lt _ q)
      obtain ⟨cap, obj, h1, h2, h3⟩ := alloc_sound (P := P) ha hop H.n hnL w
      exact val _ _ _ _ _ (.inl h1) (aAlloc_nd ha) h3 (h.new (by simpa [Nat.blt_eq] using hn) (by simp) (fun k hk => (by first | exact heap_alloc_old w _ hk | exact heap_alloc_old w _ _ hk)) (Nat.le_refl _) h2 ((Below.refl base w).alloc h.size _))
    · trivial
  · split
    · next a H' ha hn =>
      obtain ⟨x', L', w', h1, h2, h3⟩ := aWrite_sound (P := P) h (by simpa [Nat.blt_eq] using hn) ha hop
      exact val x' L' w' H' a h1 (aWrite_nd ha) h2 h3
    · trivial
  · split
    · next c hc =>
      have hnd : ∀ c, op.op ≠ .defer c := fun c' hc' => by rw [hc] at hc'; cases hc'
      split
      · next y hy =>
        split
        · next fv args hfv hargs =>
          have hmem : ∀ z, z ∈ op.op.operands.toList ↔ z = y ∨ z ∈ c.args.toList := fun z => by
            rw [hc]
            simp [Op.operands, Call.operands, hy]
          obtain ⟨e1, e2⟩ := hop y ((hmem y).2 (.inl rfl)) fv hfv
          obtain ⟨e3, e4⟩ := evL_sound c.args.toList args (fun z hz => hop z ((hmem z).2 (.inr hz))) hargs
          have eargs : c.args.map (Act.eval ⟨tm, df⟩) = (concL x args).toArray := by rw [← Array.toArray_toList (xs := c.args.map _), Array.toList_map, e3]
          unfold callA
          split
          · next fn fst caps =>
            rw [AV.ok] at e2
            have hokl : okL x L (fst ++ (args ++ caps)) := append_ok e2.1 (append_ok e4 e2.2)
            rcases callF_out (g := fn) hP h hF hS hb hbl hokl with ⟨n, hn⟩ | ⟨⟨fd, bd, q1, q2, q3⟩, hout⟩
            · rw [hn]; trivial
            · refine Out.of_steps (.one ?_) hout
              subst hf
              refine stepR_enter ho hw hnd ?_
              have hcall := run_callFunc_in q1 q2 q3 (concL x (fst ++ (args ++ caps))).toArray w
              simp only [execOp, hc, resolve, hy, e1, eargs, conc, Deferred.ofValue]
              simp only [Sem.run_bind, Sem.run_pure, Result.andThen, invoke]
              rw [← hcall]
              congr 2
              simp [concL_map, Array.append_assoc]
          · next l =>
            rw [AV.ok] at e2
            split
            · next nf hn =>
              obtain ⟨fn, tm', asg, bd, q1, q2⟩ := yield_fr (P := P) h e2 e4 hn
              refine ⟨x, L, w, _, f :: fs, .one ?_, h, ⟨H.n, q2, hS.push hF⟩, hb, hbl⟩
              subst hf
              refine stepR_round ho hw hnd ?_
              simp only [execOp, hc, resolve, hy, e1, eargs, conc, Deferred.ofValue]
              simp only [Sem.run_bind, Sem.run_pure, Result.andThen, invoke]
              rw [← q1]
              congr 2
              simp
            · trivial
          · trivial
        · trivial
      · trivial
    · trivial
end
end Go.Proofs.YtklanoppbbaolaaGreat
