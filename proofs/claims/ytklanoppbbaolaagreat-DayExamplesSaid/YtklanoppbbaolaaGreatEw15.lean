/- A closed run: frames and stacks. No program is named here. -/
import Derived.Test.YtklanoppbbaolaaGreatEw14
namespace Go.Proofs.YtklanoppbbaolaaGreat
open Go Go.RowKit
set_option linter.unusedVariables false
set_option linter.unusedSimpArgs false
def mkB (x : Gh) (fn : FuncId) (ro : Option Nat) : Frame := { fn := fn, tmps := #[], todo := [], defers := [], mode := .run, kind := .normal, roundOf := ro.map fun l => (x l).1 }
def mkD (x : Gh) (df : List Nat) : List Deferred := df.map fun b => { target := .collected (x b).1, args := #[] }
def itC (x : Gh) : AIt → Item
  | .it i => i
  | .ops o l => .inRegion o l
  | .rf b => .inRangeFunc (x b).1
  | .erf b => .endRangeFunc (x b).1
  | .drg _ _ _ => .beginRound
  | .drc _ _ _ _ => .beginRound
def tdC (x : Gh) (k : List AIt) : List Item := k.map (itC x)
def itOk (L : Nat → Prop) : AIt → Prop
  | .rf b => L b
  | .erf b => L b
  | .drg _ _ _ => False
  | .drc _ _ _ _ => False
  | _ => True
def tdOk (L : Nat → Prop) (k : List AIt) : Prop := ∀ i ∈ k, itOk L i
theorem itC_ext {x x' : Gh} {L : Nat → Prop} (hx : Ext L x x') {i : AIt} (h : itOk L i) : itC x' i = itC x i := by
  cases i <;> simp only [itC]
  · rw [hx _ h]
  · rw [hx _ h]
theorem tdC_ext {x x' : Gh} {L : Nat → Prop} (hx : Ext L x x') {k : List AIt} (h : tdOk L k) : tdC x' k = tdC x k := List.map_congr_left fun i hi => itC_ext hx (h i hi)
theorem itOk_mono {L L' : Nat → Prop} (hL : Sub L L') {i : AIt} (h : itOk L i) : itOk L' i := by
  cases i <;> first | exact hL _ h | exact h
theorem tdOk_mono {L L' : Nat → Prop} (hL : Sub L L') {k : List AIt} (h : tdOk L k) : tdOk L' k := fun i hi => itOk_mono hL (h i hi)
theorem tdOk_cons {L : Nat → Prop} {i : AIt} {k : List AIt} : tdOk L (i :: k) ↔ itOk L i ∧ tdOk L k := by simp [tdOk]
theorem mkB_ext {x x' : Gh} {L : Nat → Prop} (hx : Ext L x x') (fn : FuncId) {ro : Option Nat} (h : ∀ l, ro = some l → L l) : mkB x' fn ro = mkB x fn ro := by
  cases ro with
  | none => rfl
  | some l => simp only [mkB, Option.map_some, hx l (h l rfl)]
theorem mkD_ext {x x' : Gh} {L : Nat → Prop} (hx : Ext L x x') {df : List Nat} (h : ∀ b ∈ df, L b) : mkD x' df = mkD x df := List.map_congr_left fun b hb => by rw [hx b (h b hb)]
/-- A frame's slots and what it has still to do. -/
inductive BodyR (P : Program) (x : Gh) (L : Nat → Prop) (H : Hp) (lo : Nat) (fr : AFr) (tm : Array Value) (td : List Item) : Prop
  | plain (h1 : td = tdC x fr.todo) (h2 : tdOk L fr.todo) (h3 : ∀ d, slotR x L fr.T tm d) (h4 : tm.size = fr.sz)
  | drg {o : Array Oper} {cs : List Nat} {st : List (List Nat × List Nat)} {k : List AIt} {rest : List Nat} {M W : Tr Nat} {prev : Option Nat} {Ev : Nat} {T0 : Tr AV} {pd : List (Nat × Nat)} {pre : List Nat}
      (h1 : fr.todo = .drg o cs st :: k) (h2 : td = .inRegion o rest :: tdC x k) (h3 : tdOk L k) (h4 : okW W o.toList 0 = true) (h5 : ckP P M W o.toList prev Ev cs st = true) (h6 : ∀ c, prev = some c → c ∈ pre)
      (h7 : ∀ i op, o[i]? = some op → isCh P op = true → Ev.testBit i = true → i ∈ pre) (h8 : Rg P o M W T0 fr.T Ev x L H lo fr.sz pd tm pre rest)
  | drc {o : Array Oper} {c : Nat} {cs : List Nat} {st : List (List Nat × List Nat)} {k : List AIt} {r2 : List Nat} {M W : Tr Nat} {Ev : Nat} {T0 : Tr AV} {pd : List (Nat × Nat)} {pre : List Nat} {op : Oper}
      (h1 : fr.todo = .drc o c cs st :: k) (h2 : td = .inRegion o (c :: r2) :: tdC x k) (h3 : tdOk L k) (h4 : okW W o.toList 0 = true) (h5 : ckP P M W o.toList (some c) (Ev ||| (1 <<< c)) cs st = true) (h6 : o[c]? = some op)
      (h7 : ∀ i op, o[i]? = some op → isCh P op = true → Ev.testBit i = true → i ∈ pre) (h8 : Ev.testBit c = false) (h9 : rdB M W Ev c false op.op.operands.toList = true) (h10 : grdB M o.toList Ev c op = true) (h11 : Rg P o M W T0 fr.T Ev x L H lo fr.sz pd tm pre (c :: r2))
structure FrR (P : Program) (x : Gh) (L : Nat → Prop) (H : Hp) (lo : Nat) (fr : AFr) (f : Frame) : Prop where
  shape : ∃ tm td, f = (mkB x fr.fn fr.ro).atR ⟨tm, mkD x fr.df⟩ td ∧ BodyR P x L H lo fr tm td
  sz : fr.sz < 1000000
  ro : ∀ l, fr.ro = some l → L l
  df : ∀ b ∈ fr.df, L b
  lo : lo ≤ H.n
section
variable {P : Program} {x x' : Gh} {L L' : Nat → Prop} {w w' : World} {H H' : Hp} {lo base : Nat} {fr fr' : AFr} {f : Frame}
theorem FrR.mono (h : FrR P x L H lo fr f) (hx : Ext L x x') (hL : Sub L L') (hst : ∀ b, lo ≤ b → b < H.n → ¬ L b → ¬ L' b ∧ ∀ k, H'.get b = some k → H.get b = some k) (hn : H.n ≤ H'.n) (hr : H'.r = H.r) : FrR P x' L' H' lo fr f := by
  obtain ⟨⟨tm, td, h1, h2⟩, h3, h4, h5, h6⟩ := h
  refine ⟨⟨tm, td, by rw [mkB_ext hx fr.fn h4, mkD_ext hx h5]; exact h1, ?_⟩, h3, fun l hl => hL l (h4 l hl), fun b hb => hL b (h5 b hb), Nat.le_trans h6 hn⟩
  cases h2 with
  | plain g1 g2 g3 g4 => exact .plain (by rw [tdC_ext hx g2]; exact g1) (tdOk_mono hL g2) (fun d => (g3 d).mono hx hL) g4
  | drg g1 g2 g3 g4 g5 g6 g7 g8 => exact .drg g1 (by rw [tdC_ext hx g3]; exact g2) (tdOk_mono hL g3) g4 g5 g6 g7 (g8.mono hx hL hst hn hr)
  | drc g1 g2 g3 g4 g5 g6 g7 g8 g9 g10 g11 => exact .drc g1 (by rw [tdC_ext hx g3]; exact g2) (tdOk_mono hL g3) g4 g5 g6 g7 g8 g9 g10 (g11.mono hx hL hst hn hr)
theorem FrR.up (h : FrR P x L H lo fr f) (n : Nl H.n base x L w H x' L' w' H') : FrR P x' L' H' lo fr f :=
  h.mono n.ext n.sub (fun b _ hb hnL => ⟨(n.stay b hb hnL).1, fun k hk => by rw [← (n.stay b hb hnL).2]; exact hk⟩) n.le n.r
theorem putD_slot {T T' : Tr AV} {tm : Array Value} {d : Option Tmp} {a : AV} {df : List Deferred} (hs : ∀ e, slotR x L T tm e) (hsz : tm.size < 1000000) (hok : a.ok x L) (hp : putD T tm.size d a = some T') :
    (∀ e, slotR x L T' (Act.put ⟨tm, df⟩ d (conc x a)).tmps e) ∧ (Act.put ⟨tm, df⟩ d (conc x a)).tmps.size = tm.size := by
  unfold putD at hp
  split at hp
  · injection hp with hp
    subst hp
    exact ⟨hs, rfl⟩
  · next d =>
    split at hp
    · next hl =>
      injection hp with hp
      subst hp
      have hl : d < tm.size := by simpa [Nat.blt_eq] using hl
      refine ⟨fun e c hc => ?_, by simp [Act.put]⟩
      show (tm.setIfInBounds d (conc x a)).getD e undef = _ ∧ _
      rw [slot_put hl]
      by_cases hde : d = e
      · subst hde
        rw [Tr.get_set _ _ _ _ (FU_pow (Nat.lt_trans hl hsz))] at hc
        injection hc with hc
        subst hc
        rw [if_pos rfl]
        exact ⟨rfl, hok⟩
      · rw [Tr.get_set_ne _ _ _ _ _ (fun q => hde q.symm)] at hc
        rw [if_neg hde]
        exact hs e c hc
    · cases hp
/-- A frame goes on with a value. -/
theorem FrR.fin (h : FrR P x L H lo fr f) {a : AV} (hok : a.ok x L) (hf : aFin fr a = some fr') : FrR P x L H lo fr' (f.finish (conc x a)) ∧ fr'.fn = fr.fn ∧ fr'.ro = fr.ro := by
  obtain ⟨⟨tm, td, h1, h2⟩, h3, h4, h5, h6⟩ := h
  subst h1
  cases h2 with
  | plain g1 g2 g3 g4 =>
    subst g1
    unfold aFin at hf
    split at hf
    · next o i l k htd =>
      rw [htd, tdOk_cons] at g2
      split at hf
      · next op hop =>
        rw [nthL_eq, ops_at] at hop
        split at hf
        · next T hT =>
          injection hf with hf
          subst hf
          rw [← g4] at hT h3
          obtain ⟨e1, e2⟩ := putD_slot (df := mkD x fr.df) g3 h3 hok hT
          refine ⟨⟨⟨_, tdC x (.ops o l :: k), ?_, .plain rfl (tdOk_cons.2 ⟨trivial, g2.2⟩) e1 (by rw [e2]; exact g4)⟩, by rw [← g4]; exact h3, h4, h5, h6⟩, rfl, rfl⟩
          rw [htd]
          show ((mkB x fr.fn fr.ro).atR ⟨tm, mkD x fr.df⟩ (.inRegion o (i :: l) :: tdC x k)).finish (conc x a) = _
          rw [finish_at hop, act_put]
          rfl
        · cases hf
      · cases hf
    · next o c cs st k htd =>
      rw [htd, tdOk_cons] at g2
      exact g2.1.elim
    · next b k htd =>
      rw [htd, tdOk_cons] at g2
      injection hf with hf
      subst hf
      refine ⟨⟨⟨tm, tdC x (.erf b :: k), ?_, .plain rfl (tdOk_cons.2 ⟨g2.1, g2.2⟩) g3 g4⟩, h3, h4, h5, h6⟩, rfl, rfl⟩
      rw [htd]
      exact finish_atR_inRangeFunc _ _
    · cases hf
  | drg g1 g2 g3 g4 g5 g6 g7 g8 => unfold aFin at hf; rw [g1] at hf; cases hf
  | @drc o c cs st k r2 M W Ev T0 pd pre op g1 g2 g3 g4 g5 g6 g7 g8 g9 g10 g11 =>
    subst g2
    unfold aFin at hf
    rw [g1] at hf
    dsimp only at hf
    rw [nthL_eq, ops_at.2 g6] at hf
    dsimp only at hf
    split at hf
    · next T hT =>
      injection hf with hf
      subst hf
      have R2 := g11.chain (df := mkD x fr.df) g4 h3 g6 g8 hok hT
      refine ⟨⟨⟨_, .inRegion o r2 :: tdC x k, ?_, .drg rfl rfl g3 g4 g5 (fun c' hc => by injection hc with hc; subst hc; simp) (fun i op' ho hc he => ?_) R2⟩, h3, h4, h5, h6⟩, rfl, rfl⟩
      · rw [finish_at g6, act_put]
      · rcases (bit_or _ _ _).1 he with he | rfl
        · exact List.mem_cons_of_mem _ (g7 i op' ho hc he)
        · simp
    · cases hf
/-- The frame is at an operation. -/
theorem FrR.head (h : FrR P x L H lo fr f) {o : Array Oper} {i : Nat} {op : Oper} (ho : o[i]? = some op) (ht : (∃ l k, fr.todo = .ops o (i :: l) :: k) ∨ ∃ cs st k, fr.todo = .drc o i cs st :: k) :
    ∃ (b : Frame) (tm : Array Value) (df : List Deferred) (rest : List Nat) (kk : List Item), f = b.atR ⟨tm, df⟩ (.inRegion o (i :: rest) :: kk) ∧ OpR x L fr.T (Act.eval ⟨tm, df⟩) op.op.operands.toList ∧ ∀ r, wantA o fr.T op = some r → Region.wanted op (yielded o tm) = r := by
  obtain ⟨⟨tm, td, h1, h2⟩, h3, h4, h5, h6⟩ := h
  cases h2 with
  | plain g1 g2 g3 g4 =>
    rcases ht with ⟨l, k, htd⟩ | ⟨cs, st, k, htd⟩
    · refine ⟨_, tm, _, l, tdC x k, by rw [h1, g1, htd]; rfl, fun y hy a ha => ?_, fun r hr => want_sound (fun j q d _ _ => g3 d) hr⟩
      cases y with
      | tmp d => exact g3 d a ha
      | const v => rw [evO] at ha; injection ha with ha; subst ha; exact ⟨by rw [conc]; rfl, by simp only [AV.ok]⟩
      | func f => rw [evO] at ha; injection ha with ha; subst ha; exact ⟨by rw [evO_fn]; rfl, by simp [AV.ok, okL]⟩
      | global g => rw [evO] at ha; cases ha
    · rw [htd, tdOk_cons] at g2
      exact g2.1.elim
  | drg g1 g2 g3 g4 g5 g6 g7 g8 => rcases ht with ⟨l, k, htd⟩ | ⟨cs, st, k, htd⟩ <;> (rw [g1] at htd; injection htd with htd _; cases htd)
  | drc g1 g2 g3 g4 g5 g6 g7 g8 g9 g10 g11 =>
    rcases ht with ⟨l, k, htd⟩ | ⟨cs, st, k, htd⟩
    · rw [g1] at htd; injection htd with htd _; cases htd
    · rw [g1] at htd
      injection htd with e1 e2
      injection e1 with e3 e4 e5 e6
      subst e3 e4
      rw [ho] at g6
      injection g6 with g6
      subst g6
      exact ⟨_, tm, _, _, _, by rw [h1, g2], g11.opr g4 (g11.ag g4 g9), fun r hr => g11.want (fun j q hg => grdB_at g10 hg) hr⟩
end
/-- The frames below; hi is the count of blocks when the callee began. -/
def StkR (P : Program) (x : Gh) (L : Nat → Prop) (H : Hp) (c0 : List Frame) : Nat → List AFr → List Frame → Prop
  | _, [], fs => fs = c0
  | _, _ :: _, [] => False
  | hi, c :: cs, f :: fs => ∃ lo Hs, Hs.n = hi ∧ Hs.r = H.r ∧ hi ≤ H.n ∧ (∀ b, b < hi → ¬ L b → ∀ k, H.get b = some k → Hs.get b = some k) ∧ FrR P x L Hs lo c f ∧ StkR P x L H c0 lo cs fs
section
variable {P : Program} {x x' : Gh} {L L' : Nat → Prop} {w w' : World} {H H' : Hp} {lo base : Nat} {c0 : List Frame}
theorem StkR.up : ∀ {cs : List AFr} {fs : List Frame} {hi lo : Nat}, StkR P x L H c0 hi cs fs → hi ≤ lo → Nl lo base x L w H x' L' w' H' → StkR P x' L' H' c0 hi cs fs
  | [], _, _, _, h, _, _ => h
  | _ :: _, [], _, _, h, _, _ => h.elim
  | c :: cs, f :: fs, hi, lo, ⟨lo', Hs, h1, h2, h3, h4, h5, h6⟩, hl, n => by
    refine ⟨lo', Hs, h1, h2.trans n.r.symm, Nat.le_trans h3 n.le, fun b hb hnL k hk => ?_, h5.mono n.ext n.sub (fun b _ hb hnL => ⟨(n.stay b (by omega) hnL).1, fun _ h => h⟩) (Nat.le_refl _) rfl, h6.up (lo := lo) (by have := h5.lo; omega) n⟩
    by_cases hLb : L b
    · exact absurd (n.sub b hLb) hnL
    · rw [(n.stay b (by omega) hLb).2] at hk
      exact h4 b hb hLb k hk
/-- The frame below goes on. -/
theorem StkR.pop {c : AFr} {cs : List AFr} {fs : List Frame} {hi : Nat} (h : StkR P x L H c0 hi (c :: cs) fs) : ∃ f fs' lo, fs = f :: fs' ∧ lo ≤ hi ∧ FrR P x L H lo c f ∧ StkR P x L H c0 lo cs fs' := by
  cases fs with
  | nil => exact h.elim
  | cons f fs =>
    obtain ⟨lo, Hs, h1, h2, h3, h4, h5, h6⟩ := h
    exact ⟨f, fs, lo, rfl, by have := h5.lo; omega, h5.mono (Ext.refl _ _) (fun _ h => h) (fun b _ hb hnL => ⟨hnL, h4 b (by omega) hnL⟩) (by omega) h2.symm, h6⟩
theorem StkR.push {c : AFr} {cs : List AFr} {f : Frame} {fs : List Frame} (hF : FrR P x L H lo c f) (h : StkR P x L H c0 lo cs fs) : StkR P x L H c0 H.n (c :: cs) (f :: fs) :=
  ⟨lo, H, rfl, rfl, Nat.le_refl _, fun _ _ _ _ h => h, hF, h⟩
end
def botF : AFr → List AFr → FuncId
  | fr, [] => fr.fn
  | _, c :: cs => botF c cs
/-- The data's state and the machine's. -/
structure StR (P : Program) (base : Nat) (g : FuncId) (c0 : List Frame) (w0 : World) (x : Gh) (L : Nat → Prop) (w : World) (s : MSt) (f : Frame) (fs : List Frame) : Prop where
  hr : HR base x L w s.H
  fr : ∃ lo, FrR P x L s.H lo s.fr f ∧ StkR P x L s.H c0 lo s.cs fs
  bot : botF s.fr s.cs = g
  below : Below base w0 w
/-- What is asked of a result of the data's machine. -/
def Out (P : Program) (base : Nat) (g : FuncId) (c0 : List Frame) (w0 : World) (m : Machine) : Rn → Prop
  | .go s => ∃ x L w f fs, Steps P m (lone f fs w) ∧ StR P base g c0 w0 x L w s f fs
  | .done v H => ∃ x L w f, Steps P m (lone f c0 w) ∧ f.leaving P w (.returned (conc x v)) ∧ f.fn = g ∧ v.ok x L ∧ HR base x L w H ∧ Below base w0 w
  | .bad _ => True
theorem Out.of_steps {P : Program} {base : Nat} {g : FuncId} {c0 : List Frame} {w0 : World} {m m' : Machine} {r : Rn} (hs : Steps P m m') (h : Out P base g c0 w0 m' r) : Out P base g c0 w0 m r := by
  cases r with
  | go s => obtain ⟨x, L, w, f, fs, h1, h2⟩ := h; exact ⟨x, L, w, f, fs, hs.trans h1, h2⟩
  | done v H => obtain ⟨x, L, w, f, h1, h2⟩ := h; exact ⟨x, L, w, f, hs.trans h1, h2⟩
  | bad n => trivial
section
variable {P : Program} {x x' : Gh} {L L' : Nat → Prop} {w w' w0 : World} {H H' : Hp} {lo base : Nat} {c0 : List Frame} {g : FuncId} {cs : List AFr} {fs : List Frame} {fr : AFr} {f : Frame}
/-- The top frame goes on with a value. -/
theorem fin_out (h : HR base x L w H) (hF : FrR P x L H lo fr f) (hS : StkR P x L H c0 lo cs fs) (hb : botF fr cs = g) (hbl : Below base w0 w) {a : AV} (hok : a.ok x L) : Out P base g c0 w0 (lone (f.finish (conc x a)) fs w) (Go.Proofs.YtklanoppbbaolaaGreat.pop a (fr :: cs) H) := by
  unfold Go.Proofs.YtklanoppbbaolaaGreat.pop
  dsimp only
  split
  · next fr' hf =>
    obtain ⟨h1, h2, h3⟩ := hF.fin hok hf
    exact ⟨x, L, w, _, fs, .refl _ _, h, ⟨lo, h1, hS⟩, by rw [← hb]; cases cs <;> simp only [botF]; exact h2, hbl⟩
  · trivial
end
end Go.Proofs.YtklanoppbbaolaaGreat
