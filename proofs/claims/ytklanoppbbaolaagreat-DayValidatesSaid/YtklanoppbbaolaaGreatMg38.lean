/- The text Ew17. -/
import Derived.Test.YtklanoppbbaolaaGreatMg37
/- A closed run: returns, rounds and loops; every step of the data is one or more of the machine's. No program is named here. -/
namespace Go.Proofs.YtklanoppbbaolaaGreat
open Go Go.RowKit
set_option linter.unusedVariables false
set_option linter.unusedSimpArgs false
def retF (fn : FuncId) (tm : Array Value) (td : List Item) (ds : List Deferred) : Frame := { fn := fn, tmps := tm, todo := td, defers := ds, mode := .returning, kind := .normal, roundOf := none }
def resF (tm : Array Value) : ResultVar → Sem Value
  | .tmp t => pure (tm.getD t undef)
  | .cell a t => do loadVar t (← asAddr (tm.getD a undef))
section
variable {P : Program} {prim : FuncId → List AV → Option AV} {x x' : Gh} {L L' : Nat → Prop} {w w' w0 : World} {H H' : Hp} {lo base : Nat} {c0 : List Frame} {g g' : FuncId} {cs : List AFr} {fs : List Frame} {fr nf : AFr} {f : Frame} {T : Tr AV} {tm : Array Value}
/-- A block is no more spoken of, and turned. -/
theorem HR.kill (h : HR base x L w H) {b : Nat} {k : Ob} (hk : H.get b = some k) (hb : L b) (hr : H.r ≤ b) (hs : w'.heap.size = w.heap.size) (hold : ∀ j, j ≠ (x b).1 → w'.heap[j]? = w.heap[j]?) (hbl : Below base w w') : Nx base x L w H x L w' (H.drop b) := by
  have hbn : b < 1000000 := by have := h.fin; have := h.lt b hb; omega
  have hget : ∀ c l, (H.drop b).get c = some l → c ≠ b ∧ H.get c = some l := fun c l hl => by
    rw [Hp.drop_get _ hbn] at hl
    by_cases e : c = b
    · rw [if_pos e] at hl; cases hl
    · rw [if_neg e] at hl; exact ⟨e, hl⟩
  refine ⟨⟨by rw [hs]; exact h.size, h.fin, h.rn, h.lt, fun c l hl => h.gn c l (hget c l hl).2, fun c l hl hc => ?_, fun c l hl => h.ro c l (hget c l hl).2, fun c l hl => h.rw_ c l (hget c l hl).2, fun c d l m hl hm => h.inj c d l m (hget c l hl).2 (hget d m hm).2⟩, Ext.refl _ _, fun _ h => h, fun c _ hnL => ⟨hnL, ?_⟩, Nat.le_refl _, rfl, hbl⟩
  · obtain ⟨hcb, hl'⟩ := hget c l hl
    refine (h.at_ c l hl' hc).ext (Ext.refl _ _) (fun _ h => h) (hold _ fun he => ?_)
    rcases Nat.lt_or_ge c H.r with hcr | hcr
    · have h1 := h.ro c l hl' hc hcr
      have h2 := h.rw_ b k hk hb hr
      omega
    · exact hcb (h.inj c b l k hl' hk hc hb hcr hr he)
  · rw [Hp.drop_get _ hbn, if_neg (fun e => hnL (by rw [e]; exact hb))]
theorem below_putObj {r : Nat} {o : Obj} (h : base ≤ r) : Below base w (w.putObj r o) := ⟨rfl, rfl, rfl, by simp, fun k hk => World.putObj_heap_other (by omega)⟩
theorem step_collected {fn : FuncId} {td : List Item} {blk : Nat} {ds : List Deferred} (hr : (Instr.takeDeferred blk).run P w = .ok [] w') : step P (lone (retF fn tm td (⟨.collected blk, #[]⟩ :: ds)) fs w) = .next (lone (retF fn tm td ds) fs w') :=
  step_lone_go (by simp [stepG, unwind, retF, Sem.runT_eq, hr, GStep.bare_after])
theorem take_run {fn : FuncId} {td : List Item} : ∀ (df : List Nat) (w : World) (H : Hp), HR base x L w H → (∀ b ∈ df, L b) → takeDf H df = some H' → ∃ w', Steps P (lone (retF fn tm td (mkD x df)) fs w) (lone (retF fn tm td []) fs w') ∧ Nx base x L w H x L w' H'
  | [], w, H, h, _, ht => by
    rw [takeDf] at ht
    injection ht with ht
    subst ht
    exact ⟨w, .refl _ _, Nx.refl h⟩
  | b :: df, w, H, h, hL, ht => by
    rw [takeDf] at ht
    split at ht
    · next hb =>
      split at ht
      · next hr =>
        have hLb := hL b (by simp)
        have hr := Nat.le_of_ble_eq_true hr
        have hat : w.heap[(x b).1]? = some (.deferred (some [])) := h.at_ b _ hb hLb
        have n1 := h.kill (w' := w.putObj (x b).1 (.deferred none)) hb hLb hr (by simp) (fun j hj => World.putObj_heap_other hj) (below_putObj (h.rw_ b _ hb hLb hr))
        obtain ⟨w', s, n2⟩ := take_run df _ _ n1.hr (fun c hc => hL c (by simp [hc])) ht
        exact ⟨w', .head (step_collected (run_takeDeferred hat)) s, n1.trans n2⟩
      · cases ht
    · cases ht
theorem resL_sound (h : HR base x L w H) (hs : ∀ d, slotR x L T tm d) : ∀ (l : List ResultVar) (r : List AV), resL P T H l = some r → (l.mapM (resF tm)).run P w = .ok (concL x r) w ∧ okL x L r
  | [], r, hr => by
    rw [resL] at hr
    injection hr with hr
    subst hr
    exact ⟨by simp [concL], by simp [okL]⟩
  | .tmp t :: l, r, hr => by
    rw [resL] at hr
    split at hr
    · next a q ha hq =>
      injection hr with hr
      subst hr
      obtain ⟨h1, h2⟩ := resL_sound h hs l q hq
      obtain ⟨h3, h4⟩ := hs t a ha
      refine ⟨?_, by simp only [okL]; exact ⟨h4, h2⟩⟩
      simp [List.mapM_cons, resF, h1, h3, concL]
    · cases hr
  | .cell a t :: l, r, hr => by
    rw [resL] at hr
    split at hr
    · next b o ha =>
      split at hr
      · next v q hv hq =>
        injection hr with hr
        subst hr
        obtain ⟨h1, h2⟩ := resL_sound h hs l q hq
        obtain ⟨h3, h4⟩ := hs a _ ha
        rw [AV.ok] at h4
        obtain ⟨h5, h6⟩ := load_sound (P := P) h h4 hv
        refine ⟨?_, by simp only [okL]; exact ⟨h6, h2⟩⟩
        rw [conc] at h3
        simp [List.mapM_cons, resF, h1, h3, concL, asAddr, h5]
      · cases hr
    · cases hr
theorem resV_sound (h : HR base x L w H) (hs : ∀ d, slotR x L T tm d) {fn : Func} {v : AV} (hv : resV P T H fn = some v) : (results fn tm).run P w = .ok (conc x v) w ∧ v.ok x L := by
  have hres : results fn tm = (do let vs ← fn.results.mapM (resF tm); pure (if h : vs.size = 1 then vs[0] else .tuple vs)) := by
    unfold results
    congr 1
  have key : ∀ r, resL P T H fn.results.toList = some r → (results fn tm).run P w = .ok (if h : (concL x r).toArray.size = 1 then (concL x r).toArray[0] else .tuple (concL x r).toArray) w ∧ okL x L r := fun r hr => by
    obtain ⟨h1, h2⟩ := resL_sound (P := P) h hs _ r hr
    refine ⟨?_, h2⟩
    rw [hres, Array.mapM_eq_mapM_toList]
    simp [h1]
  unfold resV at hv
  split at hv
  · next a hr =>
    injection hv with hv
    subst hv
    obtain ⟨h1, h2⟩ := key _ hr
    rw [h1]
    exact ⟨by simp [concL], h2.1⟩
  · next l hne hr =>
    injection hv with hv
    subst hv
    obtain ⟨h1, h2⟩ := key _ hr
    rw [h1]
    refine ⟨?_, by simpa only [AV.ok] using h2⟩
    have : (concL x l).length ≠ 1 := fun hl => by
      rw [concL_len] at hl
      obtain ⟨a, ha⟩ := List.length_eq_one_iff.1 hl
      exact hne a (by rw [ha])
    simp [conc, this]
  · cases hv
/-- A function's frame returns. -/
theorem ret_out (h : HR base x L w H) (hs : ∀ d, slotR x L fr.T tm d) (hd : ∀ b ∈ fr.df, L b) (hlo : lo ≤ H.n) (hS : StkR P x L H c0 lo cs fs) (hb : botF fr cs = g) (hbl : Below base w0 w) (hro : fr.ro = none) {td : List Item} {jump : Option Code} (hj : jump = none ∨ jump = some .ret) :
    Out P base g c0 w0 (lone (retF fr.fn tm td (mkD x fr.df)) fs w) (leave P fr cs H jump) := by
  have main : ∀ H1 fn, takeDf H fr.df = some H1 → P.funcs[fr.fn]? = some fn → Out P base g c0 w0 (lone (retF fr.fn tm td (mkD x fr.df)) fs w) (match resV P fr.T H1 fn with | some v => Go.Proofs.YtklanoppbbaolaaGreat.pop v cs H1 | none => .bad 2) := fun H1 fn ht hfn => by
    split
    · next v hv =>
      obtain ⟨w1, s1, n1⟩ := take_run (P := P) (fn := fr.fn) (td := td) (fs := fs) (tm := tm) fr.df w H h hd ht
      obtain ⟨e1, e2⟩ := resV_sound (P := P) n1.hr hs hv
      have hlv : (retF fr.fn tm td []).leaving P w1 (.returned (conc x v)) := ⟨rfl, rfl, rfl, fn, hfn, e1⟩
      have hS1 := hS.up (Nat.le_refl _) (n1.toNl hlo)
      cases cs with
      | nil =>
        cases (show fs = c0 from hS)
        exact ⟨x, L, w1, _, s1, hlv, hb, e2, n1.hr, hbl.trans n1.below⟩
      | cons c cs =>
        obtain ⟨f', fs', lo', rfl, hlo', hF', hS'⟩ := hS1.pop
        exact Out.of_steps (s1.trans (.one (step_leave_returned hlv))) (fin_out n1.hr hF' hS' hb (hbl.trans n1.below) e2)
    · trivial
  have hl : leave P fr cs H jump = (match takeDf H fr.df, P.funcs[fr.fn]? with | some H, some fn => (match resV P fr.T H fn with | some v => Go.Proofs.YtklanoppbbaolaaGreat.pop v cs H | none => .bad 2) | _, _ => .bad 3) := by
    unfold leave
    rw [hro]
    rcases hj with rfl | rfl <;> rfl
  rw [hl]
  split
  · next H1 fn h1 h2 => exact main H1 fn h1 h2
  · trivial
theorem lp_at (h : HR base x L w H) {l : Nat} (hL : L l) {st : LoopState} {pend : Option Code} {fn : FuncId} {tz : Nat} {ps : Array Tmp} {asg bd : Code} {d : Nat} (hg : H.get l = some (.lp st pend fn T tz ps asg bd d)) :
    ∃ tm, w.heap[(x l).1]? = some (.loop { state := st, pending := pend, fn := fn, tmps := tm, params := ps, assign := asg, body := bd, defers := (x d).1 }) ∧ L d ∧ ∀ st' pend' H1, H.putO l (.lp st' pend' fn T tz ps asg bd d) = some H1 →
      Nx base x L w H x L (w.putObj (x l).1 (.loop { state := st', pending := pend', fn := fn, tmps := tm, params := ps, assign := asg, body := bd, defers := (x d).1 })) H1 := by
  obtain ⟨tm, g1, g2, g3, g4⟩ := h.at_ l _ hg hL
  refine ⟨tm, g1, g4, fun st' pend' H1 hp => ?_⟩
  obtain ⟨hr, rfl⟩ := putO_eq hp
  exact h.put hg hL hr (by simp) (fun j hj => World.putObj_heap_other hj) ⟨tm, World.putObj_heap_same (h.glt hg hL), g2, g3, g4⟩ (below_putObj (h.rw_ l _ hg hL hr))
/-- A round ends. -/
theorem round_out (h : HR base x L w H) (hlo : lo ≤ H.n) (hS : StkR P x L H c0 lo cs fs) (hb : botF fr cs = g) (hbl : Below base w0 w) {l : Nat} (hro : fr.ro = some l) (hL : L l) {jump : Option Code}
    (hstep : ∀ c fs' w', fs = c :: fs' → (Instr.endRound (x l).1 jump).run P w = .ok (.bool jump.isNone) w' → step P (lone f fs w) = .next (lone (c.finish (.bool jump.isNone)) fs' w')) : Out P base g c0 w0 (lone f fs w) (leave P fr cs H jump) := by
  unfold leave
  rw [hro]
  dsimp only
  split
  · next st pend fn T tz ps asg bd d hg =>
    obtain ⟨tm, g1, g2, g3⟩ := lp_at h hL hg
    split
    · next c cs =>
      split
      · next c' hc =>
        split
        · next H1 hp =>
          have n1 := g3 _ _ _ hp
          obtain ⟨f', fs', lo', rfl, hlo', hF', hS'⟩ := (hS.up (Nat.le_refl _) (n1.toNl hlo)).pop
          have ho := fin_out (a := .v (.bool jump.isNone)) n1.hr hF' hS' hb (hbl.trans n1.below) (by simp only [AV.ok])
          unfold Go.Proofs.YtklanoppbbaolaaGreat.pop at ho
          dsimp only at ho
          rw [hc, conc_v] at ho
          refine Out.of_steps (.one (hstep f' fs' _ rfl ?_)) ho
          cases jump <;> exact run_endRound (P := P) _ g1
        · trivial
      · trivial
    · trivial
  · trivial
theorem aExit_sound {id : Nat} : ∀ (k : List AIt), tdOk L k → (∀ k', aExit id k = some k' → exitTo id (tdC x k) = some (tdC x k') ∧ tdOk L k') ∧ (aExit id k = none → exitTo id (tdC x k) = none)
  | [], _ => ⟨fun k' h => (by rw [aExit] at h; cases h), fun _ => rfl⟩
  | i :: k, hk => by
    rw [tdOk_cons] at hk
    obtain ⟨ih1, ih2⟩ := aExit_sound (id := id) k hk.2
    have other : aExit id (i :: k) = aExit id k → exitTo id (tdC x (i :: k)) = exitTo id (tdC x k) → (∀ k', aExit id (i :: k) = some k' → exitTo id (tdC x (i :: k)) = some (tdC x k') ∧ tdOk L k') ∧ (aExit id (i :: k) = none → exitTo id (tdC x (i :: k)) = none) := fun e1 e2 => by
      rw [e1, e2]; exact ⟨ih1, ih2⟩
    cases i with
    | it j =>
      cases j with
      | inBlock id' =>
        by_cases hid : id' = id
        · have e1 : aExit id (.it (.inBlock id') :: k) = some k := by rw [aExit, hid, show Nat.beq id id = true from Nat.beq_refl id]
          have e2 : exitTo id (tdC x (.it (.inBlock id') :: k)) = some (tdC x k) := by simp [tdC, itC, exitTo, hid]
          rw [e1, e2]
          exact ⟨fun k' h => (by injection h with h; subst h; exact ⟨rfl, hk.2⟩), fun h => (by cases h)⟩
        · exact other (by rw [aExit, beq_ne hid]) (by simp [tdC, itC, exitTo, hid])
      | _ => exact other (by simp only [aExit]) (by simp only [tdC, itC, List.map_cons, exitTo])
    | ops o l => exact other (by simp only [aExit]) (by simp only [tdC, itC, List.map_cons, exitTo])
    | rf b => exact other (by simp only [aExit]) (by simp only [tdC, itC, List.map_cons, exitTo])
    | erf b => exact other (by simp only [aExit]) (by simp only [tdC, itC, List.map_cons, exitTo])
    | drg o c s => exact hk.1.elim
    | drc o c s t => exact hk.1.elim
theorem stepR_inScope {b : Frame} {a : Act} {c : Code} {k : List Item} : step P (lone (b.atR a (.inScope c :: k)) fs w) = .next (lone (b.atR a k) fs w) :=
  step_lone_go (by simp [stepG, stepG.exec, Frame.atR])
theorem stepR_scope {b : Frame} {a : Act} {c : Code} {k : List Item} : step P (lone (b.atR a (.code (.scope c) :: k)) fs w) = .next (lone (b.atR a (.code c :: .inScope c :: k)) fs w) :=
  step_lone_go (by simp [stepG, stepG.exec, Frame.atR])
end
end Go.Proofs.YtklanoppbbaolaaGreat
