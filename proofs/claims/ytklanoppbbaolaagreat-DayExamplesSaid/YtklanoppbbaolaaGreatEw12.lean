/- A closed run: one operation of a region on the machine, and what holds in the middle of a region whose order is drawn. No program is named here. -/
import Derived.Test.YtklanoppbbaolaaGreatEw11
namespace Go.Proofs.YtklanoppbbaolaaGreat
open Go Go.RowKit
set_option linter.unusedVariables false
set_option linter.unusedSimpArgs false
section moves
variable {P : Program} {b : Frame} {a : Act} {k : List Item} {cs : List Frame} {w w' : World} {ops : Array Oper} {i : Nat} {rest : List Nat} {o : Oper}
theorem finish_at (ho : ops[i]? = some o) (v : Value) : (b.atR a (.inRegion ops (i :: rest) :: k)).finish v = b.atR (a.put o.dst v) (.inRegion ops rest :: k) := by
  rw [Frame.finish_atR, ho]; rfl
theorem stepR_value (ho : ops[i]? = some o) (hw : Region.wanted o (yielded ops a.tmps) = true) (hn : ∀ c, o.op ≠ .defer c) {v : Value} (hr : (execOp a.eval o).run P w = .ok (.value v) w') :
    step P (lone (b.atR a (.inRegion ops (i :: rest) :: k)) cs w) = .next (lone (b.atR (a.put o.dst v) (.inRegion ops rest :: k)) cs w') := by
  have hg := stepGR_op (P := P) (b := b) (k := k) (cs := cs) (w := w) (rest := rest) ho hw
  rw [Oper.semAt_eq _ _ _ hn] at hg
  refine step_lone_go ?_
  rw [hg, ← finish_at ho]
  simp [stepG.apply, hr]
theorem stepR_skipped (ho : ops[i]? = some o) (hw : Region.wanted o (yielded ops a.tmps) = true) (hn : ∀ c, o.op ≠ .defer c) (hr : (execOp a.eval o).run P w = .ok .skip w') :
    step P (lone (b.atR a (.inRegion ops (i :: rest) :: k)) cs w) = .next (lone (b.atR (a.put o.dst undef) (.inRegion ops rest :: k)) cs w') := by
  have hg := stepGR_op (P := P) (b := b) (k := k) (cs := cs) (w := w) (rest := rest) ho hw
  rw [Oper.semAt_eq _ _ _ hn] at hg
  refine step_lone_go ?_
  rw [hg, ← finish_at ho]
  simp [stepG.apply, hr]
theorem stepR_enter (ho : ops[i]? = some o) (hw : Region.wanted o (yielded ops a.tmps) = true) (hn : ∀ c, o.op ≠ .defer c) {f : FuncId} {args : Array Value} (hr : (execOp a.eval o).run P w = .ok (.enter f args) w') :
    step P (lone (b.atR a (.inRegion ops (i :: rest) :: k)) cs w) = .next (lone (Frame.enter P f args .normal) (b.atR a (.inRegion ops (i :: rest) :: k) :: cs) w') := by
  have hg := stepGR_op (P := P) (b := b) (k := k) (cs := cs) (w := w) (rest := rest) ho hw
  rw [Oper.semAt_eq _ _ _ hn] at hg
  refine step_lone_go ?_
  rw [hg]
  simp [stepG.apply, hr, Frame.atR]
theorem stepR_round (ho : ops[i]? = some o) (hw : Region.wanted o (yielded ops a.tmps) = true) (hn : ∀ c, o.op ≠ .defer c) {l : Nat} {f : FuncId} {tmps : Array Value} {as bd : Code} (hr : (execOp a.eval o).run P w = .ok (.round l f tmps as bd) w') :
    step P (lone (b.atR a (.inRegion ops (i :: rest) :: k)) cs w) = .next (lone (Frame.round l f tmps as bd .normal) (b.atR a (.inRegion ops (i :: rest) :: k) :: cs) w') := by
  have hg := stepGR_op (P := P) (b := b) (k := k) (cs := cs) (w := w) (rest := rest) ho hw
  rw [Oper.semAt_eq _ _ _ hn] at hg
  refine step_lone_go ?_
  rw [hg]
  simp [stepG.apply, hr, Frame.atR]
theorem stepR_unwanted (ho : ops[i]? = some o) (hw : Region.wanted o (yielded ops a.tmps) = false) :
    step P (lone (b.atR a (.inRegion ops (i :: rest) :: k)) cs w) = .next (lone (b.atR (a.put o.dst undef) (.inRegion ops rest :: k)) cs w) := by
  have := stepR_op_skip (P := P) (b := b) (a := a) (k := k) (cs := cs) (w := w) (ops := ops) (i := i) (rest := rest) (by simp [ho, hw])
  rwa [ho] at this
end moves
/-- What a step keeps; the blocks below lo that are not alive stay as they are. -/
structure Nl (lo base : Nat) (x : Gh) (L : Nat → Prop) (w : World) (H : Hp) (x' : Gh) (L' : Nat → Prop) (w' : World) (H' : Hp) : Prop where
  hr : HR base x' L' w' H'
  ext : Ext L x x'
  sub : Sub L L'
  stay : ∀ b, b < lo → ¬ L b → ¬ L' b ∧ H'.get b = H.get b
  le : H.n ≤ H'.n
  r : H'.r = H.r
  below : Below base w w'
section
variable {lo base : Nat} {x x' x'' : Gh} {L L' L'' : Nat → Prop} {w w' w'' : World} {H H' H'' : Hp}
theorem Nl.refl (h : HR base x L w H) : Nl lo base x L w H x L w H := ⟨h, Ext.refl _ _, fun _ h => h, fun _ _ h => ⟨h, rfl⟩, Nat.le_refl _, rfl, Below.refl _ _⟩
theorem Nl.trans (h : Nl lo base x L w H x' L' w' H') (k : Nl lo base x' L' w' H' x'' L'' w'' H'') : Nl lo base x L w H x'' L'' w'' H'' :=
  ⟨k.hr, h.ext.trans k.ext h.sub, fun b hb => k.sub b (h.sub b hb), fun b hb hn => by
    obtain ⟨h1, h2⟩ := h.stay b hb hn
    obtain ⟨h3, h4⟩ := k.stay b hb h1
    exact ⟨h3, h4.trans h2⟩, Nat.le_trans h.le k.le, k.r.trans h.r, h.below.trans k.below⟩
theorem Nl.mono {lo' : Nat} (h : Nl lo base x L w H x' L' w' H') (hl : lo' ≤ lo) : Nl lo' base x L w H x' L' w' H' :=
  ⟨h.hr, h.ext, h.sub, fun b hb => h.stay b (Nat.lt_of_lt_of_le hb hl), h.le, h.r, h.below⟩
theorem Nx.toNl (h : Nx base x L w H x' L' w' H') (hl : lo ≤ H.n) : Nl lo base x L w H x' L' w' H' :=
  ⟨h.hr, h.ext, h.sub, fun b hb => h.stay b (Nat.lt_of_lt_of_le hb hl), h.le, h.r, h.below⟩
end
def slotR (x : Gh) (L : Nat → Prop) (T : Tr AV) (tm : Array Value) (d : Tmp) : Prop := ∀ a, T.get d = some a → tm.getD d undef = conc x a ∧ a.ok x L
def Wr (o : Array Oper) (i : Nat) (d : Tmp) : Prop := ∃ op, o[i]? = some op ∧ op.dst = some d
section
variable {P : Program} {o : Array Oper} {x : Gh} {L : Nat → Prop} {T : Tr AV} {tm : Array Value}
theorem conc_UV (x : Gh) : conc x UV = undef := by rw [UV, conc]; rfl
theorem want_sound {op : Oper} {r : Bool} (hs : ∀ j q d, op.guard = some (j, q) → Wr o j d → slotR x L T tm d) (h : wantA o T op = some r) : Region.wanted op (yielded o tm) = r := by
  unfold wantA at h
  unfold Region.wanted
  cases hg : op.guard with
  | none => rw [hg] at h; exact Option.some.inj h
  | some p =>
    obtain ⟨j, want⟩ := p
    rw [hg] at h
    dsimp only at h ⊢
    split at h
    · next o' ho' =>
      rw [nthL_eq, ops_at] at ho'
      split at h
      · next d hd =>
        have hsl := hs j want d hg ⟨o', ho', hd⟩
        have hy : yielded o tm j = match tm[d]? with | some (.bool b) => some b | _ => none := by
          unfold yielded
          rw [ho']
          simp only [Option.bind_some, hd]
          cases tm[d]? with
          | none => rfl
          | some v => cases v <;> rfl
        split at h
        · next b hT =>
          injection h with h
          obtain ⟨h1, _⟩ := hsl _ hT
          rw [conc] at h1
          have : tm[d]? = some (.bool b) := by
            rw [Array.getD_eq_getD_getElem?] at h1
            cases ht : tm[d]? with
            | none => rw [ht] at h1; cases h1
            | some v => rw [ht] at h1; simpa using h1
          rw [hy, this, ← h]
          cases b <;> cases want <;> rfl
        · next y hT =>
          injection h with h
          obtain ⟨h1, _⟩ := hsl _ hT
          rw [conc] at h1
          have : yielded o tm j = none := by
            rw [hy]
            rw [Array.getD_eq_getD_getElem?] at h1
            cases ht : tm[d]? with
            | none => rfl
            | some v =>
              rw [ht] at h1
              simp only [Option.getD_some] at h1
              subst h1
              rfl
          rw [this, ← h]
          rfl
        · cases h
      · cases h
    · cases h
theorem slot_put {d e : Tmp} {v : Value} (h : d < tm.size) : (tm.setIfInBounds d v).getD e undef = if d = e then v else tm.getD e undef := by
  simp only [Array.getD_eq_getD_getElem?, Array.getElem?_setIfInBounds]
  by_cases hd : d = e
  · subst hd; simp [h]
  · simp [hd]
end
/-- What an evaluated operation read. -/
def Ag (M W : Tr Nat) (T0 T : Tr AV) (Ev i : Nat) (op : Oper) (Ti : Tr AV) : Prop := ∀ d, Operand.tmp d ∈ op.op.operands.toList →
  (W.get d = none ∧ Ti.get d = T0.get d) ∨ (∃ j, W.get d = some j ∧ bitA M i j = true ∧ Ev.testBit j = true ∧ Ti.get d = T.get d) ∨ (∃ j, W.get d = some j ∧ bitA M j i = true ∧ Ti.get d = T0.get d)
/-- An operation that was evaluated and not yet done. -/
structure Gd (P : Program) (o : Array Oper) (M W : Tr Nat) (T0 T : Tr AV) (Ev : Nat) (L : Nat → Prop) (H : Hp) (sz : Nat) (pd : List (Nat × Nat)) (i : Nat) (op : Oper) : Prop where
  guard : ∀ j q, op.guard = some (j, q) → bitA M i j = true ∧ Ev.testBit j = true
  val : ∃ d, op.dst = some d ∧ d < sz ∧ ((wantA o T op = some false ∧ T.get d = some UV) ∨ (wantA o T op = some true ∧
    ((∃ Ti a, Ag M W T0 T Ev i op Ti ∧ aPure P Ti op = some a ∧ T.get d = some a) ∨ isRd P op = true ∨
      (∃ Ti ob mk b, Ag M W T0 T Ev i op Ti ∧ aAlloc P Ti op = some (ob, mk) ∧ T.get d = some (mk b) ∧ (i, b) ∈ pd ∧ ¬ L b ∧ ∀ k, H.get b = some k → k = ob))))
/-- In the middle of a region. -/
structure Rg (P : Program) (o : Array Oper) (M W : Tr Nat) (T0 T : Tr AV) (Ev : Nat) (x : Gh) (L : Nat → Prop) (H : Hp) (lo sz : Nat) (pd : List (Nat × Nat)) (tm : Array Value) (pre rest : List Nat) : Prop where
  sch : SchOk M o.size pre rest
  shut : Shut M pre
  sub : ∀ i ∈ pre, Ev.testBit i = true
  size : tm.size = sz
  done : ∀ d i, i ∈ pre → Wr o i d → slotR x L T tm d
  old : ∀ d, (∀ i ∈ pre, ¬ Wr o i d) → slotR x L T0 tm d
  same : ∀ d, (∀ i, Ev.testBit i = true → ¬ Wr o i d) → T.get d = T0.get d
  good : ∀ i op, o[i]? = some op → Ev.testBit i = true → i ∉ pre → Gd P o M W T0 T Ev L H sz pd i op
  pdin : ∀ p ∈ pd, lo ≤ p.2 ∧ p.2 < H.n ∧ H.r ≤ p.2 ∧ Ev.testBit p.1 = true
  pdone : ∀ p ∈ pd, ∀ q ∈ pd, p.2 = q.2 → p.1 = q.1
section
variable {P : Program} {o : Array Oper} {M W : Tr Nat} {T0 T T' : Tr AV} {Ev Ev' : Nat} {x x' : Gh} {L L' : Nat → Prop} {H H' : Hp} {lo sz : Nat} {pd pd' : List (Nat × Nat)} {tm : Array Value} {pre rest : List Nat} {i : Nat} {op : Oper}
theorem slotR.mono {d : Tmp} (h : slotR x L T tm d) (hx : Ext L x x') (hL : Sub L L') : slotR x' L' T tm d := fun a ha => by
  obtain ⟨h1, h2⟩ := h a ha
  exact ⟨by rw [conc_ext hx a h2]; exact h1, ok_mono hx hL a h2⟩
theorem Gd.mono (h : Gd P o M W T0 T Ev L H sz pd i op) (hst : ∀ b, (i, b) ∈ pd → ¬ L b → ¬ L' b ∧ ∀ k, H'.get b = some k → H.get b = some k) : Gd P o M W T0 T Ev L' H' sz pd i op := by
  obtain ⟨hg, d, hd, hl, h⟩ := h
  refine ⟨hg, d, hd, hl, h.imp id (And.imp id (Or.imp id (Or.imp id ?_)))⟩
  rintro ⟨Ti, ob, mk, b, h1, h2, h3, h4, h5, h6⟩
  obtain ⟨e1, e2⟩ := hst b h4 h5
  exact ⟨Ti, ob, mk, b, h1, h2, h3, h4, e1, fun k hk => h6 k (e2 k hk)⟩
theorem Rg.mono (h : Rg P o M W T0 T Ev x L H lo sz pd tm pre rest) (hx : Ext L x x') (hL : Sub L L') (hst : ∀ b, lo ≤ b → b < H.n → ¬ L b → ¬ L' b ∧ ∀ k, H'.get b = some k → H.get b = some k) (hn : H.n ≤ H'.n) (hr : H'.r = H.r) : Rg P o M W T0 T Ev x' L' H' lo sz pd tm pre rest :=
  ⟨h.sch, h.shut, h.sub, h.size, fun d i hi hw => (h.done d i hi hw).mono hx hL, fun d hd => (h.old d hd).mono hx hL, h.same, fun i op ho he hi => (h.good i op ho he hi).mono fun b hb hnL => by
    obtain ⟨h1, h2, _⟩ := h.pdin _ hb
    exact hst b h1 h2 hnL, fun p hp => by
    obtain ⟨h1, h2, h3, h4⟩ := h.pdin p hp
    exact ⟨h1, Nat.lt_of_lt_of_le h2 hn, by rw [hr]; exact h3, h4⟩, h.pdone⟩
theorem wr_one (hW : okW W o.toList 0 = true) {i : Nat} {d : Tmp} (h : Wr o i d) : W.get d = some i := by
  obtain ⟨op, h1, h2⟩ := h
  have := okW_at _ _ hW i op d (ops_at.2 h1) h2
  rwa [Nat.zero_add] at this
theorem wr_inj (hW : okW W o.toList 0 = true) {i j : Nat} {d : Tmp} (h : Wr o i d) (k : Wr o j d) : i = j := by
  have h1 := wr_one hW h
  rw [wr_one hW k] at h1
  injection h1 with h1
  exact h1.symm
/-- The operands of the operation at hand. -/
theorem Rg.opr (hW : okW W o.toList 0 = true) (h : Rg P o M W T0 T Ev x L H lo sz pd tm pre (i :: rest)) {Ti : Tr AV} (hag : Ag M W T0 T Ev i op Ti) {df : List Deferred} : OpR x L Ti (Act.eval ⟨tm, df⟩) op.op.operands.toList := by
  obtain ⟨hlt, hin, hpre, _⟩ := h.sch
  intro y hy a ha
  cases y with
  | tmp d =>
    have h0 : ∀ (T1 : Tr AV), T1.get d = Ti.get d → slotR x L T1 tm d → Act.eval ⟨tm, df⟩ (.tmp d) = conc x a ∧ a.ok x L := fun T1 he hs => hs a (by rw [he]; exact ha)
    rcases hag d hy with ⟨h1, h2⟩ | ⟨j, h1, h2, h3, h4⟩ | ⟨j, h1, h2, h3⟩
    · exact h0 T0 h2.symm (h.old d fun i' _ hw => by rw [wr_one hW hw] at h1; cases h1)
    · have hj := hpre j h2
      by_cases hw : Wr o j d
      · exact h0 T h4.symm (h.done d j hj hw)
      · have hno : ∀ i', ¬ Wr o i' d := fun i' hw' => by
          have e := wr_one hW hw'
          rw [h1] at e
          injection e with e
          subst e
          exact hw hw'
        exact h0 T0 (by rw [h4]; exact (h.same d fun i' _ => hno i').symm) (h.old d fun i' _ => hno i')
    · refine h0 T0 h3.symm (h.old d fun i' hi' hw => ?_)
      have e := wr_one hW hw
      rw [h1] at e
      injection e with e
      subst e
      exact hin (h.shut _ hi' _ h2)
  | const v =>
    rw [evO] at ha
    injection ha with ha
    subst ha
    exact ⟨by rw [conc]; rfl, by simp only [AV.ok]⟩
  | func f =>
    rw [evO] at ha
    injection ha with ha
    subst ha
    exact ⟨by rw [evO_fn]; rfl, by simp [AV.ok, okL]⟩
  | global g => rw [evO] at ha; cases ha
theorem Rg.want (h : Rg P o M W T0 T Ev x L H lo sz pd tm pre (i :: rest)) (hg : ∀ j q, op.guard = some (j, q) → bitA M i j = true ∧ Ev.testBit j = true) {r : Bool} (hw : wantA o T op = some r) : Region.wanted op (yielded o tm) = r :=
  want_sound (fun j q d hgq hwr => h.done d j (h.sch.2.2.1 j (hg j q hgq).1) hwr) hw
/-- The operation at hand is done. -/
theorem Rg.put (hW : okW W o.toList 0 = true) (h : Rg P o M W T0 T Ev x L H lo sz pd tm pre (i :: rest)) (ho : o[i]? = some op) (hev : Ev.testBit i = true) (hx : Ext L x x') (hL : Sub L L') (hst : ∀ j b, (j, b) ∈ pd → j ≠ i → ¬ L b → ¬ L' b ∧ ∀ k, H'.get b = some k → H.get b = some k) (hn : H.n ≤ H'.n) (hr : H'.r = H.r)
    {v : Value} (hv : ∀ d, op.dst = some d → d < sz ∧ ∀ a, T.get d = some a → v = conc x' a ∧ a.ok x' L') {df : List Deferred} : Rg P o M W T0 T Ev x' L' H' lo sz pd (Act.put ⟨tm, df⟩ op.dst v).tmps (i :: pre) rest := by
  obtain ⟨hlt, hin, hpre, hsch⟩ := h.sch
  have hget : ∀ d, ¬ Wr o i d → (Act.put ⟨tm, df⟩ op.dst v).tmps.getD d undef = tm.getD d undef := fun d hd => by
    unfold Act.put
    split
    · next e he =>
      have hne : e ≠ d := fun q => hd ⟨op, ho, by rw [he, q]⟩
      show (tm.setIfInBounds e v).getD d undef = _
      rw [slot_put (by rw [h.size]; exact (hv e he).1), if_neg hne]
    · rfl
  have hkeep : ∀ d T1, ¬ Wr o i d → slotR x L T1 tm d → slotR x' L' T1 (Act.put ⟨tm, df⟩ op.dst v).tmps d := fun d T1 hd hs a ha => by
    rw [hget d hd]
    exact hs.mono hx hL a ha
  refine ⟨hsch, h.shut.cons hpre, fun j hj => ?_, ?_, fun d j hj hw => ?_, fun d hd => ?_, h.same, fun j opj hoj hej hj => ?_, fun p hp => ?_, h.pdone⟩
  · rcases List.mem_cons.1 hj with rfl | hj
    · exact hev
    · exact h.sub j hj
  · unfold Act.put
    split
    · simp [h.size]
    · exact h.size
  · by_cases hwi : Wr o i d
    · obtain ⟨op', ho', hd'⟩ := hwi
      rw [ho] at ho'
      injection ho' with ho'
      subst ho'
      intro a ha
      obtain ⟨h1, h2⟩ := hv d hd'
      obtain ⟨h3, h4⟩ := h2 a ha
      refine ⟨?_, h4⟩
      rw [hd', ← h3]
      show (tm.setIfInBounds d v).getD d undef = v
      rw [slot_put (by rw [h.size]; exact h1), if_pos rfl]
    · rcases List.mem_cons.1 hj with rfl | hj
      · exact absurd hw hwi
      · exact hkeep d T hwi (h.done d j hj hw)
  · exact hkeep d T0 (hd i (by simp)) (h.old d fun j hj => hd j (by simp [hj]))
  · have hji : j ≠ i := fun e => hj (by simp [e])
    exact (h.good j opj hoj hej fun e => hj (by simp [e])).mono fun b hb hnL => hst j b hb hji hnL
  · obtain ⟨h1, h2, h3, h4⟩ := h.pdin p hp
    exact ⟨h1, Nat.lt_of_lt_of_le h2 hn, by rw [hr]; exact h3, h4⟩
/-- What the data tell of an operation's wish does not turn while others are evaluated. -/
theorem wantA_ext (hT : ∀ j q d, op.guard = some (j, q) → Wr o j d → T'.get d = T.get d) : wantA o T' op = wantA o T op := by
  unfold wantA
  cases hg : op.guard with
  | none => rfl
  | some p =>
    obtain ⟨j, q⟩ := p
    dsimp only
    rw [nthL_eq, Array.getElem?_toList]
    cases ho : o[j]? with
    | none => rfl
    | some o' =>
      dsimp only
      cases hd : o'.dst with
      | none => rfl
      | some d =>
        dsimp only
        rw [hT j q d hg ⟨o', ho, hd⟩]
/-- One more operation is evaluated. -/
theorem Rg.ev (hW : okW W o.toList 0 = true) (h : Rg P o M W T0 T Ev x L H lo sz pd tm pre rest) {i0 : Nat} {op0 : Oper} (ho0 : o[i0]? = some op0) (he0 : Ev.testBit i0 = false) (hT : ∀ d, ¬ Wr o i0 d → T'.get d = T.get d) (hst : ∀ b, b < H.n → H'.get b = H.get b) (hn : H.n ≤ H'.n) (hr : H'.r = H.r)
    (hsub : ∀ p ∈ pd, p ∈ pd') (hpd : ∀ p ∈ pd', p ∈ pd ∨ (p.1 = i0 ∧ H.n ≤ p.2 ∧ lo ≤ p.2 ∧ p.2 < H'.n ∧ H'.r ≤ p.2)) (hnew : Gd P o M W T0 T' (Ev ||| (1 <<< i0)) L H' sz pd' i0 op0) : Rg P o M W T0 T' (Ev ||| (1 <<< i0)) x L H' lo sz pd' tm pre rest := by
  have hw0 : ∀ j d, Ev.testBit j = true → Wr o j d → T'.get d = T.get d := fun j d hj hw => hT d fun hw' => by
    have := wr_inj hW hw hw'
    subst this
    rw [he0] at hj
    cases hj
  refine ⟨h.sch, h.shut, fun j hj => (bit_or _ _ _).2 (.inl (h.sub j hj)), h.size, fun d j hj hw a ha => ?_, h.old, fun d hd => ?_, fun j opj hoj hej hj => ?_, fun p hp => ?_, fun p hp q hq he => ?_⟩
  · rw [hw0 j d (h.sub j hj) hw] at ha
    exact h.done d j hj hw a ha
  · rw [hT d (hd i0 ((bit_or _ _ _).2 (.inr rfl)))]
    exact h.same d fun j hj => hd j ((bit_or _ _ _).2 (.inl hj))
  · rcases (bit_or _ _ _).1 hej with hej | rfl
    · obtain ⟨hg, d, hd, hl, hval⟩ := h.good j opj hoj hej hj
      have hdT : T'.get d = T.get d := hw0 j d hej ⟨opj, hoj, hd⟩
      have hwant : wantA o T' opj = wantA o T opj := wantA_ext fun k q e hgk hw => hw0 k e (hg k q hgk).2 hw
      have hag : ∀ Ti, Ag M W T0 T Ev j opj Ti → Ag M W T0 T' (Ev ||| (1 <<< i0)) j opj Ti := fun Ti ha e he => by
        rcases ha e he with h1 | ⟨k, h1, h2, h3, h4⟩ | h1
        · exact .inl h1
        · refine .inr (.inl ⟨k, h1, h2, (bit_or _ _ _).2 (.inl h3), ?_⟩)
          rw [h4, hT e fun hw => ?_]
          have e1 := wr_one hW hw
          rw [h1] at e1
          injection e1 with e1
          subst e1
          rw [he0] at h3
          cases h3
        · exact .inr (.inr h1)
      refine ⟨fun k q hgk => ⟨(hg k q hgk).1, (bit_or _ _ _).2 (.inl (hg k q hgk).2)⟩, d, hd, hl, ?_⟩
      rw [hwant, hdT]
      refine hval.imp id (And.imp id ?_)
      rintro (⟨Ti, a, h1, h2, h3⟩ | h1 | ⟨Ti, ob, mk, b, h1, h2, h3, h4, h5, h6⟩)
      · exact .inl ⟨Ti, a, hag Ti h1, h2, h3⟩
      · exact .inr (.inl h1)
      · exact .inr (.inr ⟨Ti, ob, mk, b, hag Ti h1, h2, h3, hsub _ h4, h5, fun k hk => h6 k (by rw [← hst b (h.pdin _ h4).2.1]; exact hk)⟩)
    · rw [ho0] at hoj
      injection hoj with hoj
      subst hoj
      exact hnew
  · rcases hpd p hp with hp | ⟨h1, h2, h3, h4, h5⟩
    · obtain ⟨h1, h2, h3, h4⟩ := h.pdin p hp
      exact ⟨h1, Nat.lt_of_lt_of_le h2 hn, by rw [hr]; exact h3, (bit_or _ _ _).2 (.inl h4)⟩
    · exact ⟨h3, h4, h5, (bit_or _ _ _).2 (.inr h1)⟩
  · rcases hpd p hp with hp | ⟨h1, h2, _⟩ <;> rcases hpd q hq with hq | ⟨h3, h4, _⟩
    · exact h.pdone p hp q hq he
    · have := (h.pdin p hp).2.1
      omega
    · have := (h.pdin q hq).2.1
      omega
    · rw [h1, h3]
end
end Go.Proofs.YtklanoppbbaolaaGreat
