/- A closed run: operations, calls, returns. No program is named here. -/
import Derived.Test.YtklanoppbbaolaaGreatEw15
import Derived.RangeFuncNested
namespace Go.Proofs.YtklanoppbbaolaaGreat
open Go Go.RowKit
set_option linter.unusedVariables false
set_option linter.unusedSimpArgs false
/-- Calls that are known otherwise. -/
def PrimOk (P : Program) (prim : FuncId → List AV → Option AV) : Prop := ∀ g args v, prim g args = some v → (∃ fn c, P.funcs[g]? = some fn ∧ fn.body = some c ∧ (fn.name == "runtime.NumGoroutine") = false) ∧
  ∀ (base : Nat) (x : Gh) (L : Nat → Prop) (w : World) (H : Hp), HR base x L w H → okL x L args → v.ok x L ∧ Calls P g (concL x args).toArray w (fun e w' => e = .returned (conc x v) ∧ HR base x L w' H ∧ Below base w w')
section
variable {P : Program} {prim : FuncId → List AV → Option AV} {x x' : Gh} {L L' : Nat → Prop} {w w' w0 : World} {H H' : Hp} {lo base : Nat} {c0 : List Frame} {g g' : FuncId} {cs : List AFr} {fs : List Frame} {fr nf : AFr} {f : Frame}
theorem initT_at : ∀ (args : List AV) (k : Nat) (T : Tr AV) (d : Nat), k + args.length < 1000000 → (initT args k T).get d = if k ≤ d ∧ d < k + args.length then args[d - k]? else T.get d
  | [], k, T, d, _ => by rw [if_neg (by simp)]; rfl
  | a :: l, k, T, d, h => by
    rw [List.length_cons] at h
    rw [initT, initT_at l (k + 1) _ d (by omega), List.length_cons]
    by_cases hd : d = k
    · subst hd
      rw [if_neg (by omega), if_pos (by omega), Nat.sub_self, List.getElem?_cons_zero]
      exact Tr.get_set _ _ _ _ (FU_pow (by omega))
    · by_cases hc : k + 1 ≤ d ∧ d < k + 1 + l.length
      · rw [if_pos hc, if_pos (by omega), show d - k = (d - (k + 1)) + 1 by omega, List.getElem?_cons_succ]
      · rw [if_neg hc, if_neg (by omega), Tr.get_set_ne _ _ _ _ _ hd]
theorem concL_at (x : Gh) (l : List AV) (i : Nat) : (concL x l)[i]? = (l[i]?).map (conc x) := by rw [concL_map, List.getElem?_map]
theorem run_callFunc_in {f : FuncId} {fn : Func} {c : Code} (hf : P.funcs[f]? = some fn) (hb : fn.body = some c) (hname : (fn.name == "runtime.NumGoroutine") = false) (args : Array Value) (w : World) :
    (callFunc f args).run P w = .ok (.enter f args) w := by
  have h1 : fn.name ≠ "runtime.NumGoroutine" := by simpa using hname
  simp [callFunc, hf, h1, hb]
/-- A function is entered. -/
theorem enter_fr {args : List AV} (hok : okL x L args) (he : aEnter P g args = some nf) : (∃ fn c, P.funcs[g]? = some fn ∧ fn.body = some c ∧ (fn.name == "runtime.NumGoroutine") = false) ∧
    FrR P x L H H.n nf (Frame.enter P g (concL x args).toArray .normal) ∧ nf.fn = g := by
  unfold aEnter at he
  split at he
  · next fn hfn =>
    split at he
    · next c hb hname =>
      split at he
      · next hlt =>
        injection he with he
        subst he
        have hlt : Nat.max args.length fn.ntmps < 1000000 := by rw [← lenL_eq]; simpa [Nat.blt_eq] using hlt
        refine ⟨⟨fn, c, hfn, hb, hname⟩, ⟨⟨(concL x args).toArray ++ Array.replicate (fn.ntmps - (concL x args).toArray.size) undef, [.code c], ?_, .plain rfl (fun i hi => ?_) (fun d a ha => ?_) ?_⟩, ?_, (fun l hl => by cases hl), (fun b hb => by simp at hb), Nat.le_refl _⟩, rfl⟩
        · simp [Frame.enter, hfn, hb, mkB, mkD, Frame.atR]
        · simp at hi; subst hi; trivial
        · dsimp only at ha
          have hl1 : args.length < 1000000 := Nat.lt_of_le_of_lt (Nat.le_max_left _ _) hlt
          rw [initT_at args 0 .lf d (by omega)] at ha
          split at ha
          · next hd =>
            rw [Nat.sub_zero] at ha
            refine ⟨?_, okL_iff.1 hok a (List.mem_of_getElem? ha)⟩
            rw [Array.getD_eq_getD_getElem?, Array.getElem?_append_left (by simp [concL_len]; omega)]
            simp [concL_at, ha]
          · cases ha
        · show _ = Nat.max (lenL args) fn.ntmps
          rw [lenL_eq]
          have : Nat.max args.length fn.ntmps = max args.length fn.ntmps := rfl
          rw [this]
          simp [concL_len]
          omega
        · show Nat.max (lenL args) fn.ntmps < 1000000
          rw [lenL_eq]; exact hlt
      · cases he
    · cases he
  · cases he
theorem botF_push (nf fr : AFr) (cs : List AFr) : botF nf (fr :: cs) = botF fr cs := rfl
/-- A call of a function. -/
theorem callF_out (hP : PrimOk P prim) (h : HR base x L w H) (hF : FrR P x L H lo fr f) (hS : StkR P x L H c0 lo cs fs) (hb : botF fr cs = g') (hbl : Below base w0 w) {args : List AV} (hok : okL x L args) :
    (∃ n, callF P prim fr cs H g args = .bad n) ∨ ((∃ fn c, P.funcs[g]? = some fn ∧ fn.body = some c ∧ (fn.name == "runtime.NumGoroutine") = false) ∧ Out P base g' c0 w0 (lone (Frame.enter P g (concL x args).toArray .normal) (f :: fs) w) (callF P prim fr cs H g args)) := by
  unfold callF
  split
  · next v hv =>
    obtain ⟨h1, h2⟩ := hP g args v hv
    obtain ⟨h3, h4⟩ := h2 base x L w H h hok
    refine .inr ⟨h1, ?_⟩
    obtain ⟨e, w', fr', ⟨rfl, hr, hbw⟩, hst, hfn, hlv⟩ := h4 (f :: fs)
    exact Out.of_steps (hst.trans (.one (step_leave_returned hlv))) (fin_out hr hF hS hb (hbl.trans hbw) h3)
  · split
    · next nf hn =>
      obtain ⟨h1, h2, h3⟩ := enter_fr (H := H) hok hn
      exact .inr ⟨h1, x, L, w, _, f :: fs, .refl _ _, h, ⟨H.n, h2, hS.push hF⟩, hb, hbl⟩
    · exact .inl ⟨8, rfl⟩
theorem setPs_slot : ∀ (ps : List Tmp) (as : List AV) (T : Tr AV) (tm : Array Value), (∀ d, slotR x L T tm d) → tm.size < 1000000 → allLt tm.size ps = true → okL x L as → 
    (∀ d, slotR x L (setPs ps as T) ((ps.zip (concL x as)).foldl (fun tm p => tm.setIfInBounds p.1 p.2) tm) d) ∧ ((ps.zip (concL x as)).foldl (fun tm p => tm.setIfInBounds p.1 p.2) tm).size = tm.size
  | [], as, T, tm, hs, _, _, _ => by cases as <;> exact ⟨hs, rfl⟩
  | d :: ps, [], T, tm, hs, _, _, _ => by simp only [concL, List.zip_nil_right]; exact ⟨hs, rfl⟩
  | d :: ps, a :: as, T, tm, hs, hsz, hl, hok => by
    rw [allLt] at hl
    split at hl
    · next hd =>
      have hd : d < tm.size := by simpa [Nat.blt_eq] using hd
      rw [okL] at hok
      have h1 : ∀ e, slotR x L (T.set FU d (some a)) (tm.setIfInBounds d (conc x a)) e := fun e c hc => by
        rw [slot_put hd]
        by_cases hde : d = e
        · subst hde
          rw [Tr.get_set _ _ _ _ (FU_pow (Nat.lt_trans hd hsz))] at hc
          injection hc with hc
          subst hc
          rw [if_pos rfl]
          exact ⟨rfl, hok.1⟩
        · rw [Tr.get_set_ne _ _ _ _ _ (fun q => hde q.symm)] at hc
          rw [if_neg hde]
          exact hs e c hc
      obtain ⟨e1, e2⟩ := setPs_slot ps as (T.set FU d (some a)) (tm.setIfInBounds d (conc x a)) h1 (by simpa using hsz) (by simpa using hl) hok.2
      simp only [concL, List.zip_cons_cons, List.foldl_cons, setPs]
      exact ⟨e1, by rw [e2]; simp⟩
    · cases hl
/-- A loop's body is called. -/
theorem yield_fr (h : HR base x L w H) {l : Nat} (hL : L l) {args : List AV} (hok : okL x L args) (hy : aYield H l args = some nf) : ∃ fn tm as bd, (Instr.yield (x l).1 (concL x args).toArray).run P w = .ok (.round (x l).1 fn tm as bd) w ∧ FrR P x L H H.n nf (Frame.round (x l).1 fn tm as bd .normal) := by
  unfold aYield at hy
  split at hy
  · next st pend fn T tz ps as bd d hg =>
    split at hy
    · next h1 h2 =>
      injection hy with hy
      subst hy
      rw [Bool.and_eq_true] at h2
      have hlen : args.length = ps.size := by have := Nat.eq_of_beq_eq_true h1; rw [lenL_eq, lenL_eq] at this; simpa using this
      obtain ⟨tm, g1, g2, g3, g4⟩ := h.at_ l _ hg hL
      have hr := run_yield (P := P) (args := (concL x args).toArray) g1 (by simp [concL_len, hlen])
      refine ⟨_, _, _, _, hr, ?_⟩
      have htz : tz < 1000000 := by simpa [Nat.blt_eq] using h2.1
      subst g3
      obtain ⟨e1, e2⟩ := setPs_slot (x := x) (L := L) ps.toList args T tm g2 htz h2.2 hok
      have hfold : (ps.zip (concL x args).toArray).foldl (fun tmps (p : Tmp × Value) => tmps.setIfInBounds p.1 p.2) tm = (ps.toList.zip (concL x args)).foldl (fun tm p => tm.setIfInBounds p.1 p.2) tm := by
        rw [← Array.foldl_toList]
        simp
      dsimp only
      rw [hfold]
      refine ⟨⟨_, [.code as, .beginRound, .code bd], ?_, .plain rfl (fun i hi => ?_) e1 e2⟩, htz, fun l' hl' => ?_, (fun b hb => by simp at hb), Nat.le_refl _⟩
      · simp [Frame.round, mkB, mkD, Frame.atR]
      · simp at hi; rcases hi with rfl | rfl | rfl <;> trivial
      · injection hl' with hl'; subst hl'; exact hL
    · cases hy
  · cases hy
theorem oneOp_out (hP : PrimOk P prim) (h : HR base x L w H) (hF : FrR P x L H lo fr f) (hS : StkR P x L H c0 lo cs fs) (hb : botF fr cs = g) (hbl : Below base w0 w) {o : Array Oper} {i : Nat} {op : Oper} (ho : o[i]? = some op)
    {b : Frame} {tm : Array Value} {df : List Deferred} {rest : List Nat} {kk : List Item} (hf : f = b.atR ⟨tm, df⟩ (.inRegion o (i :: rest) :: kk)) (hop : OpR x L fr.T (Act.eval ⟨tm, df⟩) op.op.operands.toList) (hw : Region.wanted op (yielded o tm) = true) :
    Out P base g c0 w0 (lone f fs w) (oneOp P prim fr cs H op) := by
  have val : ∀ (x' : Gh) (L' : Nat → Prop) (w' : World) (H' : Hp) (a : AV), ((execOp (Act.eval ⟨tm, df⟩) op).run P w = .ok (.value (conc x' a)) w' ∨ ((execOp (Act.eval ⟨tm, df⟩) op).run P w = .ok .skip w' ∧ a = UV)) → (∀ c, op.op ≠ .defer c) → a.ok x' L' → Nx base x L w H x' L' w' H' → Out P base g c0 w0 (lone f fs w) (Go.Proofs.YtklanoppbbaolaaGreat.pop a (fr :: cs) H') := fun x' L' w' H' a hr hn hok nx => by
    refine Out.of_steps (.one ?_) (fin_out nx.hr (hF.up (nx.toNl (Nat.le_refl _))) (hS.up (Nat.le_refl _) (nx.toNl hF.lo)) hb (hbl.trans nx.below) hok)
    subst hf
    rw [finish_at ho]
    rcases hr with hr | ⟨hr, rfl⟩
    · exact stepR_value ho hw hn hr
    · rw [conc_UV]
      exact stepR_skipped ho hw hn hr
  unfold oneOp
  split
  · split
    · next a ha =>
      obtain ⟨h1, h2⟩ := aPure_sound (P := P) (w := w) ha hop
      exact val x L w H a (.inl h1) (aPure_nd ha) h2 (Nx.refl h)
    · trivial
  · split
    · next a ha =>
      obtain ⟨h1, h2⟩ := aRead_sound (P := P) h ha hop
      exact val x L w H a (.inl h1) (aRead_nd ha) h2 (Nx.refl h)
    · trivial
  · split
    · next ob mk ha hn =>
      have hnL : ¬ L H.n := fun q => Nat.lt_irrefl _ (h.lt _ q)
      obtain ⟨cap, obj, h1, h2, h3⟩ := alloc_sound (P := P) ha hop H.n hnL w
      exact val _ _ _ _ _ (.inl h1) (aAlloc_nd ha) h3 (h.new (by simpa [Nat.blt_eq] using hn) (by simp) (fun k hk => heap_alloc_old w _ hk) (Nat.le_refl _) h2 ((Below.refl base w).alloc h.size _))
    · trivial
  · split
    · next a H' ha hn =>
      obtain ⟨x', L', w', h1, h2, h3⟩ := aWrite_sound (P := P) h (by simpa [Nat.blt_eq] using hn) ha hop
      exact val x' L' w' H' a h1 (aWrite_nd ha) h2 h3
    · trivial
  · split
    · next c hc =>
      have hnd : ∀ c, op.op ≠ .defer c := fun c' hc' => by rw [hc] at hc'; cases hc'
      split
      · next y hy =>
        split
        · next fv args hfv hargs =>
          have hmem : ∀ z, z ∈ op.op.operands.toList ↔ z = y ∨ z ∈ c.args.toList := fun z => by
            rw [hc]
            simp [Op.operands, Call.operands, hy]
          obtain ⟨e1, e2⟩ := hop y ((hmem y).2 (.inl rfl)) fv hfv
          obtain ⟨e3, e4⟩ := evL_sound c.args.toList args (fun z hz => hop z ((hmem z).2 (.inr hz))) hargs
          have eargs : c.args.map (Act.eval ⟨tm, df⟩) = (concL x args).toArray := by rw [← Array.toArray_toList (xs := c.args.map _), Array.toList_map, e3]
          unfold callA
          split
          · next fn fst caps =>
            rw [AV.ok] at e2
            have hokl : okL x L (fst ++ (args ++ caps)) := append_ok e2.1 (append_ok e4 e2.2)
            rcases callF_out (g := fn) hP h hF hS hb hbl hokl with ⟨n, hn⟩ | ⟨⟨fd, bd, q1, q2, q3⟩, hout⟩
            · rw [hn]; trivial
            · refine Out.of_steps (.one ?_) hout
              subst hf
              refine stepR_enter ho hw hnd ?_
              have hcall := run_callFunc_in q1 q2 q3 (concL x (fst ++ (args ++ caps))).toArray w
              simp only [execOp, hc, resolve, hy, e1, eargs, conc, Deferred.ofValue]
              simp only [Sem.run_bind, Sem.run_pure, Result.andThen, invoke]
              rw [← hcall]
              congr 2
              simp [concL_map, Array.append_assoc]
          · next l =>
            rw [AV.ok] at e2
            split
            · next nf hn =>
              obtain ⟨fn, tm', as, bd, q1, q2⟩ := yield_fr (P := P) h e2 e4 hn
              refine ⟨x, L, w, _, f :: fs, .one ?_, h, ⟨H.n, q2, hS.push hF⟩, hb, hbl⟩
              subst hf
              refine stepR_round ho hw hnd ?_
              simp only [execOp, hc, resolve, hy, e1, eargs, conc, Deferred.ofValue]
              simp only [Sem.run_bind, Sem.run_pure, Result.andThen, invoke]
              rw [← q1]
              congr 2
              simp
            · trivial
          · trivial
        · trivial
      · trivial
    · trivial
end
end Go.Proofs.YtklanoppbbaolaaGreat
