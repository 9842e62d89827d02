/- The text Ew18. -/
import Derived.Test.YtklanoppbbaolaaGreatMg38
/- A closed run: every step of the data is one or more of the machine's. No program is named here. -/
namespace Go.Proofs.YtklanoppbbaolaaGreat
open Go Go.RowKit
set_option linter.unusedVariables false
set_option linter.unusedSimpArgs false
section
variable {P : Program} {prim : FuncId → List AV → Option AV} {x x' : Gh} {L L' : Nat → Prop} {w w' w0 : World} {H H' : Hp} {lo base : Nat} {c0 : List Frame} {g g' : FuncId} {cs : List AFr} {fs : List Frame} {fr nf : AFr} {f : Frame} {T : Tr AV} {tm : Array Value}
/-- The frame at hand is not in a drawn region. -/
structure Pl (P : Program) (x : Gh) (L : Nat → Prop) (H : Hp) (fr : AFr) (f : Frame) (tm : Array Value) : Prop where
  f : f = (mkB x fr.fn fr.ro).atR ⟨tm, mkD x fr.df⟩ (tdC x fr.todo)
  td : tdOk L fr.todo
  s : ∀ d, slotR x L fr.T tm d
  size : tm.size = fr.sz
theorem FrR.pl (h : FrR P x L H lo fr f) (hd : ∀ o cs st k, fr.todo ≠ .drg o cs st :: k) (hc : ∀ o c cs st k, fr.todo ≠ .drc o c cs st :: k) : ∃ tm, Pl P x L H fr f tm := by
  obtain ⟨⟨tm, td, h1, h2⟩, h3, h4, h5, h6⟩ := h
  cases h2 with
  | plain g1 g2 g3 g4 => exact ⟨tm, by rw [h1, g1], g2, g3, g4⟩
  | drg g1 => exact absurd g1 (hd _ _ _ _)
  | drc g1 => exact absurd g1 (hc _ _ _ _ _)
/-- A move within a frame. -/
theorem move_out (h : HR base x L w H) (hF : FrR P x L H lo fr f) (hS : StkR P x L H c0 lo cs fs) (hb : botF fr cs = g) (hbl : Below base w0 w) (hp : Pl P x L H fr f tm) {k : List AIt} (hk : tdOk L k) (n : Nx base x L w H x L w' H')
    (hs : Steps P (lone f fs w) (lone ((mkB x fr.fn fr.ro).atR ⟨tm, mkD x fr.df⟩ (tdC x k)) fs w')) : Out P base g c0 w0 (lone f fs w) (mvOn fr cs H' k) :=
  ⟨x, L, w', _, fs, hs, n.hr, ⟨lo, ⟨⟨tm, _, rfl, .plain rfl hk hp.s hp.size⟩, hF.sz, hF.ro, hF.df, Nat.le_trans hF.lo n.le⟩, hS.up (Nat.le_refl _) (n.toNl hF.lo)⟩, by rw [← hb]; cases cs <;> rfl, hbl.trans n.below⟩
theorem step0_out (h : HR base x L w H) (hF : FrR P x L H lo fr f) (hS : StkR P x L H c0 lo cs fs) (hb : botF fr cs = g) (hbl : Below base w0 w) (hp : Pl P x L H fr f tm) {k : List AIt} (hk : tdOk L k)
    (hs : step P (lone f fs w) = .next (lone ((mkB x fr.fn fr.ro).atR ⟨tm, mkD x fr.df⟩ (tdC x k)) fs w)) : Out P base g c0 w0 (lone f fs w) (mvOn fr cs H k) := move_out h hF hS hb hbl hp hk (Nx.refl h) (.one hs)
/-- An operation whose turn it is. -/
theorem op_out (hP : PrimOk P prim) (h : HR base x L w H) (hF : FrR P x L H lo fr f) (hS : StkR P x L H c0 lo cs fs) (hb : botF fr cs = g) (hbl : Below base w0 w) {o : Array Oper} {i : Nat} (ht : (∃ l k, fr.todo = .ops o (i :: l) :: k) ∨ ∃ cs st k, fr.todo = .drc o i cs st :: k) (n1 n2 : Nat) :
    Out P base g c0 w0 (lone f fs w) (match nthL o.toList i with
      | none => .bad n1
      | some op => match wantA o fr.T op with
        | some false => Go.Proofs.YtklanoppbbaolaaGreat.pop UV (fr :: cs) H
        | some true => oneOp P prim fr cs H op
        | none => .bad n2) := by
  split
  · trivial
  · next op hop =>
    rw [nthL_eq, ops_at] at hop
    obtain ⟨b, tm, df, rest, kk, h1, h2, h3⟩ := hF.head hop ht
    split
    · next hw =>
      refine Out.of_steps (.one ?_) (fin_out h hF hS hb hbl (a := UV) (by simp only [UV, AV.ok]))
      subst h1
      rw [finish_at hop, conc_UV]
      exact stepR_unwanted hop (h3 _ hw)
    · next hw => exact oneOp_out hP h hF hS hb hbl hop h1 h2 (h3 _ hw)
    · trivial
theorem drg_out (h : HR base x L w H) (hF : FrR P x L H lo fr f) (hS : StkR P x L H c0 lo cs fs) (hb : botF fr cs = g) (hbl : Below base w0 w) {o : Array Oper} {ch fl ags : List Nat} {st : List (List Nat × List Nat)} {k : List AIt} (ht : fr.todo = .drg o ch ((fl, ags) :: st) :: k) (n1 n2 : Nat) :
    Out P base g c0 w0 (lone f fs w) (match evalS P o fr.sz fl fr.T H with
    | none => .bad n1
    | some (T, H) => match againS P o ags T H with
      | false => .bad n2
      | true => match (generalizing := false) ch with
        | [] => .go ⟨⟨fr.fn, T, fr.sz, k, fr.ro, fr.df⟩, cs, H⟩
        | c :: ch => .go ⟨⟨fr.fn, T, fr.sz, .drc o c ch st :: k, fr.ro, fr.df⟩, cs, H⟩) := by
  split
  · trivial
  · next T' H' hev =>
    split
    · trivial
    · next hag =>
      obtain ⟨⟨tm, td, h1, h2⟩, h3, h4, h5, h6⟩ := hF
      cases h2 with
      | plain g1 g2 g3 g4 => rw [ht, tdOk_cons] at g2; exact g2.1.elim
      | drc g1 => rw [ht] at g1; injection g1 with g1 _; cases g1
      | @drg o' cs' st' k' rest M W prev Ev T0 pd pre g1 g2 g3 g4 g5 g6 g7 g8 =>
        rw [ht] at g1
        injection g1 with e1 e2
        injection e1 with e3 e4 e5
        subst e2 e3 e4 e5
        obtain ⟨x', L', w', tm', pre', rest', pd', Ev', s1, n1, r1, c1, e1⟩ := drg_run (b := mkB x fr.fn fr.ro) (df := mkD x fr.df) (k := tdC x k) (cs := fs) g4 h3 h h6 g8 g7 g6 g5 hev hag
        have hS' := hS.up (Nat.le_refl _) n1
        subst h1 g2
        have hB : ∀ td, (mkB x' fr.fn fr.ro).atR ⟨tm', mkD x' fr.df⟩ td = (mkB x fr.fn fr.ro).atR ⟨tm', mkD x fr.df⟩ td := fun td => by rw [mkB_ext n1.ext fr.fn h4, mkD_ext n1.ext h5]
        have hT : tdC x' k = tdC x k := tdC_ext n1.ext g3
        cases ch with
        | nil =>
          dsimp only at e1 ⊢
          subst e1
          refine ⟨x', L', w', _, fs, s1.trans (.one stepR_region_end), n1.hr, ⟨lo, ⟨⟨tm', tdC x' k, by rw [hB, hT], .plain rfl (tdOk_mono n1.sub g3) r1.slots r1.size⟩, h3, fun l hl => n1.sub l (h4 l hl), fun b hb => n1.sub b (h5 b hb), Nat.le_trans h6 n1.le⟩, hS'⟩, by rw [← hb]; cases cs <;> rfl, hbl.trans n1.below⟩
        | cons c ch =>
          dsimp only at e1 ⊢
          obtain ⟨r2, op, rfl, q2, q3, q4, q5, q6, q7⟩ := e1
          exact ⟨x', L', w', _, fs, s1, n1.hr, ⟨lo, ⟨⟨tm', .inRegion o (c :: r2) :: tdC x' k, by rw [hB, hT], .drc rfl rfl (tdOk_mono n1.sub g3) g4 q7 q2 c1 q4 q5 q6 r1⟩, h3, fun l hl => n1.sub l (h4 l hl), fun b hb => n1.sub b (h5 b hb), Nat.le_trans h6 n1.le⟩, hS'⟩, by rw [← hb]; cases cs <;> rfl, hbl.trans n1.below⟩
theorem evO_plain (hs : ∀ d, slotR x L T tm d) {y : Operand} {a : AV} {df : List Deferred} (h : evO T y = some a) : Act.eval ⟨tm, df⟩ y = conc x a ∧ a.ok x L := by
  cases y with
  | tmp d => exact hs d a h
  | const v => rw [evO] at h; injection h with h; subst h; exact ⟨by rw [conc]; rfl, by simp only [AV.ok]⟩
  | func f => rw [evO] at h; injection h with h; subst h; exact ⟨by rw [evO_fn]; rfl, by simp [AV.ok, okL]⟩
  | global g => rw [evO] at h; cases h
/-- A loop over a function is entered. -/
theorem loop_out (hP : PrimOk P prim) (h : HR base x L w H) (hF : FrR P x L H lo fr f) (hS : StkR P x L H c0 lo cs fs) (hb : botF fr cs = g) (hbl : Below base w0 w) (hp : Pl P x L H fr f tm) {y : Operand} {ps : Array Tmp} {asg bd : Code} {k : List AIt} (ht : fr.todo = .it (.code (.rangeFunc y ps asg bd)) :: k)
    {gf : FuncId} {fst caps : List AV} (hev : evO fr.T y = some (.fn gf fst caps)) {x1 : Gh} {L1 : Nat → Prop} {w1 : World} {H1 : Hp} {lb : Nat} {df1 : List Nat} {mark : List Deferred} (n1 : Nx base x L w H x1 L1 w1 H1) (hlb : L1 lb) (hdf : mkD x1 df1 = mark ++ mkD x fr.df) (hdL : ∀ b ∈ df1, L1 b)
    (he : (Instr.enterLoop fr.fn tm ps asg bd (fr.ro.map fun l => (x l).1)).run P w = .ok ((x1 lb).1, mark) w1) : Out P base g c0 w0 (lone f fs w) (callF P prim ⟨fr.fn, fr.T, fr.sz, .rf lb :: k, fr.ro, df1⟩ cs H1 gf (fst ++ (.yl lb :: caps))) := by
  have hk := hp.td
  rw [ht, tdOk_cons] at hk
  obtain ⟨v1, v2⟩ := evO_plain (df := mkD x fr.df) hp.s hev
  rw [AV.ok] at v2
  have hokl : okL x1 L1 (fst ++ (.yl lb :: caps)) := append_ok (okL_mono n1.ext n1.sub _ v2.1) (by rw [okL, AV.ok]; exact ⟨hlb, okL_mono n1.ext n1.sub _ v2.2⟩)
  have hF1 : FrR P x1 L1 H1 lo ⟨fr.fn, fr.T, fr.sz, .rf lb :: k, fr.ro, df1⟩ ((mkB x fr.fn fr.ro).atR ⟨tm, mark ++ mkD x fr.df⟩ (.inRangeFunc (x1 lb).1 :: tdC x k)) :=
    ⟨⟨tm, tdC x1 (.rf lb :: k), by rw [mkB_ext n1.ext fr.fn hF.ro, ← hdf]; simp only [tdC, List.map_cons, itC]; rw [show List.map (itC x1) k = List.map (itC x) k from tdC_ext n1.ext hk.2], .plain rfl (tdOk_cons.2 ⟨hlb, tdOk_mono n1.sub hk.2⟩) (fun d => (hp.s d).mono n1.ext n1.sub) hp.size⟩, hF.sz, fun l hl => n1.sub l (hF.ro l hl), hdL, Nat.le_trans hF.lo n1.le⟩
  rcases callF_out (g := gf) hP n1.hr hF1 (hS.up (Nat.le_refl _) (n1.toNl hF.lo)) (show botF _ cs = g by cases cs <;> exact hb) (hbl.trans n1.below) hokl with ⟨n, hn⟩ | ⟨⟨fd, bb, q1, q2, q3⟩, hout⟩
  · rw [hn]; trivial
  · refine Out.of_steps (.one ?_) hout
    rw [hp.f, ht]
    have hcall := run_callFunc_in q1 q2 q3 (concL x1 (fst ++ (.yl lb :: caps))).toArray w1
    have e1 : concL x1 fst = concL x fst := concL_ext n1.ext fst v2.1
    have e2 : concL x1 caps = concL x caps := concL_ext n1.ext caps v2.2
    refine stepR_rangeFunc (b := mkB x fr.fn fr.ro) (a := ⟨tm, mkD x fr.df⟩) (w₁' := w1) (d := ⟨.fn (.func gf) (concL x caps).toArray, (concL x fst).toArray ++ #[.func (.yield (x1 lb).1) #[] #[]]⟩) he ?_ ?_
    · simp only [resolve, v1, conc, Deferred.ofValue]
      simp [Act.eval]
    · simp only [invoke]
      rw [← hcall]
      congr 2
      rw [concL_map, concL_map] at e1 e2
      simp [concL_map, conc, e1, e2]
theorem hr_lp (h : HR base x L w H) (hn : H.n + 1 < 1000000) (hs : ∀ d, slotR x L T tm d) {fn : FuncId} {ps : Array Tmp} {asg bd : Code} {d : Nat} (hd : L d) {tz : Nat} (htz : tm.size = tz) :
    Nx base x L w H (Gh.up x H.n (w.heap.size, 0)) (Lup L H.n) (w.alloc (.loop { state := .ready, pending := none, fn := fn, tmps := tm, params := ps, assign := asg, body := bd, defers := (x d).1 })) (H.new (.lp .ready none fn T tz ps asg bd d)) := by
  have hnL : ¬ L H.n := fun q => Nat.lt_irrefl _ (h.lt _ q)
  have hx : Ext L x (Gh.up x H.n (w.heap.size, 0)) := Gh.up_ext x _ hnL
  refine h.new hn (by simp) (fun k hk => (by first | exact heap_alloc_old w _ hk | exact heap_alloc_old w _ _ hk)) (Nat.le_refl _) ⟨tm, ?_, fun e => (hs e).mono hx (Lup.sub _ _), htz, .inl hd⟩ ((Below.refl base w).alloc h.size _)
  rw [hx d hd]
  exact World.alloc_heap_new w _
theorem hr_df (h : HR base x L w H) (hn : H.n + 1 < 1000000) : Nx base x L w H (Gh.up x H.n (w.heap.size, 0)) (Lup L H.n) (w.alloc (.deferred (some []))) (H.new .df) :=
  h.new hn (by simp) (fun k hk => (by first | exact heap_alloc_old w _ hk | exact heap_alloc_old w _ _ hk)) (Nat.le_refl _) (World.alloc_heap_new w _) ((Below.refl base w).alloc h.size _)
/-- Every step. -/
theorem aStep_out (hP : PrimOk P prim) (hm : P.follows .mixedOrders = true) {s : MSt} (hR : StR P base g c0 w0 x L w s f fs) : Out P base g c0 w0 (lone f fs w) (aStep P prim s) := by
  obtain ⟨h, ⟨lo, hF, hS⟩, hb, hbl⟩ := hR
  obtain ⟨fr, cs, H⟩ := s
  dsimp only at h hF hS hb
  cases ht : fr.todo with
  | nil =>
    have hl : aStep P prim ⟨fr, cs, H⟩ = leave P fr cs H none := by unfold aStep; rw [ht]
    rw [hl]
    obtain ⟨tm, hp⟩ := hF.pl (fun o c s k => by rw [ht]; simp) (fun o c e s k => by rw [ht]; simp)
    have hf := hp.f
    rw [ht] at hf
    cases hro : fr.ro with
    | none =>
      refine Out.of_steps (.one ?_) (ret_out (td := []) h hp.s hF.df hF.lo hS hb hbl hro (.inl rfl))
      have := stepR_end (P := P) (b := mkB x fr.fn fr.ro) (a := ⟨tm, mkD x fr.df⟩) (cs := fs) (w := w) (by simp [mkB, hro])
      rw [hf]
      refine this.trans ?_
      simp [retF, Frame.atR, mkB, hro]
    | some l =>
      refine round_out h hF.lo hS hb hbl hro (hF.ro l hro) fun c fs' w' hfs hr => ?_
      subst hfs
      rw [hf]
      exact stepR_round_end (by simp [mkB, hro]) rfl hr
  | cons i k =>
    cases i with
    | ops o l =>
      cases l with
      | nil =>
        have hl : aStep P prim ⟨fr, cs, H⟩ = mvOn fr cs H k := by unfold aStep; rw [ht]
        rw [hl]
        obtain ⟨tm, hp⟩ := hF.pl (fun o c s k => by rw [ht]; simp) (fun o c e s k => by rw [ht]; simp)
        have hk := hp.td
        have hf := hp.f
        rw [ht] at hf hk
        rw [tdOk_cons] at hk
        exact step0_out h hF hS hb hbl hp hk.2 (by rw [hf]; exact stepR_region_end)
      | cons i l =>
        have := op_out hP h hF hS hb hbl (.inl ⟨l, k, ht⟩) 19 20
        unfold aStep
        rw [ht]
        exact this
    | drg o ch st =>
      cases st with
      | nil => unfold aStep; rw [ht]; trivial
      | cons p st =>
        obtain ⟨fl, ags⟩ := p
        have := drg_out h hF hS hb hbl ht 21 22
        unfold aStep
        rw [ht]
        exact this
    | drc o c ch st =>
      have := op_out hP h hF hS hb hbl (.inr ⟨ch, st, k, ht⟩) 24 25
      unfold aStep
      rw [ht]
      exact this
    | rf b => unfold aStep; rw [ht]; trivial
    | erf b =>
      obtain ⟨tm, hp⟩ := hF.pl (fun o c s k => by rw [ht]; simp) (fun o c e s k => by rw [ht]; simp)
      have hk := hp.td
      have hf := hp.f
      rw [ht] at hf hk
      rw [tdOk_cons] at hk
      unfold aStep
      rw [ht]
      dsimp only
      split
      · next st pend fn T tz ps asg bd d hg =>
        obtain ⟨tm', g1, g2, g3⟩ := lp_at h hk.1 hg
        have key : st ≠ .busy → Out P base g c0 w0 (lone f fs w) (match H.putO b (.lp .exhausted pend fn T tz ps asg bd d) with
            | some H => match (generalizing := false) pend with
              | none => mvOn fr cs H k
              | some c => mvOn fr cs H (.it (.code c) :: k)
            | none => .bad 38) := fun hst => by
          split
          · next H1 hp1 =>
            have n1 := g3 _ _ _ hp1
            have hrun := run_endLoop (P := P) g1 hst
            cases pend with
            | none => exact move_out h hF hS hb hbl hp hk.2 n1 (.one (by rw [hf]; exact stepR_endRangeFunc hrun))
            | some c => exact move_out h hF hS hb hbl hp (tdOk_cons.2 ⟨trivial, hk.2⟩) n1 (.one (by rw [hf]; exact stepR_endRangeFunc hrun))
          · trivial
        cases st with
        | busy => trivial
        | _ => exact key (by decide)
      · trivial
    | it i =>
      obtain ⟨tm, hp⟩ := hF.pl (fun o c s k => by rw [ht]; simp) (fun o c e s k => by rw [ht]; simp)
      have hk0 := hp.td
      have hf := hp.f
      rw [ht] at hf hk0
      rw [tdOk_cons] at hk0
      have hk : tdOk L k := hk0.2
      clear hk0
      unfold aStep
      rw [ht]
      dsimp only
      have two : ∀ (i j : Item), tdOk L (.it i :: .it j :: k) := fun i j => tdOk_cons.2 ⟨trivial, tdOk_cons.2 ⟨trivial, hk⟩⟩
      cases i with
      | inBlock id => exact step0_out h hF hS hb hbl hp hk (by rw [hf]; exact stepR_inBlock)
      | inScope c => exact step0_out h hF hS hb hbl hp hk (by rw [hf]; exact stepR_inScope)
      | inLoop c => exact step0_out h hF hS hb hbl hp (two _ _) (by rw [hf]; exact stepR_inLoop)
      | beginRound =>
        cases hro : fr.ro with
        | none => trivial
        | some l =>
          dsimp only
          split
          · next pend fn T tz ps asg bd d hg =>
            obtain ⟨tm', g1, g2, g3⟩ := lp_at h (hF.ro l hro) hg
            split
            · next H1 hp1 =>
              have n1 := g3 _ _ _ hp1
              have hrun := run_beginRound (P := P) g1 rfl
              refine move_out h hF hS hb hbl hp hk n1 (.one ?_)
              rw [hf]
              exact stepR_beginRound (by simp [mkB, hro]) hrun
            · trivial
          · trivial
      | code c =>
        cases c with
        | skip => exact step0_out h hF hS hb hbl hp hk (by rw [hf]; exact stepR_skip)
        | label n => exact step0_out h hF hS hb hbl hp hk (by rw [hf]; exact stepR_label)
        | seq a b => exact step0_out h hF hS hb hbl hp (two _ _) (by rw [hf]; exact stepR_seq)
        | block id b => exact step0_out h hF hS hb hbl hp (two _ _) (by rw [hf]; exact stepR_block)
        | loop b => exact step0_out h hF hS hb hbl hp (two _ _) (by rw [hf]; exact stepR_loop)
        | scope b => exact step0_out h hF hS hb hbl hp (two _ _) (by rw [hf]; exact stepR_scope)
        | cond y a b =>
          dsimp only
          split
          · next he =>
            refine step0_out h hF hS hb hbl hp (tdOk_cons.2 ⟨trivial, hk⟩) ?_
            rw [hf]
            exact stepR_cond (t := true) (by rw [(evO_plain hp.s he).1, conc])
          · next he =>
            refine step0_out h hF hS hb hbl hp (tdOk_cons.2 ⟨trivial, hk⟩) ?_
            rw [hf]
            exact stepR_cond (t := false) (by rw [(evO_plain hp.s he).1, conc])
          · trivial
        | exit id =>
          dsimp only
          obtain ⟨e1, e2⟩ := aExit_sound (x := x) (id := id) k hk
          cases he : aExit id k with
          | some k' =>
            obtain ⟨e3, e4⟩ := e1 k' he
            exact step0_out h hF hS hb hbl hp e4 (by rw [hf]; exact stepR_exit e3)
          | none =>
            dsimp only
            cases hro : fr.ro with
            | none =>
              have : leave P fr cs H (some (.exit id)) = .bad 4 := by unfold leave; rw [hro]
              rw [this]
              trivial
            | some l =>
              refine round_out h hF.lo hS hb hbl hro (hF.ro l hro) fun c fs' w' hfs hr => ?_
              subst hfs
              rw [hf]
              exact stepR_round_exit (by simp [mkB, hro]) rfl (e2 he) hr
        | ret =>
          dsimp only
          cases hro : fr.ro with
          | none =>
            refine Out.of_steps (.one ?_) (ret_out (td := tdC x (.it (.code .ret) :: k)) h hp.s hF.df hF.lo hS hb hbl hro (.inr rfl))
            rw [hf]
            have := stepR_ret (P := P) (b := mkB x fr.fn fr.ro) (a := ⟨tm, mkD x fr.df⟩) (k := tdC x k) (cs := fs) (w := w) (by simp [mkB, hro])
            refine this.trans ?_
            simp [retF, Frame.atR, mkB, hro, tdC, itC]
          | some l =>
            refine round_out h hF.lo hS hb hbl hro (hF.ro l hro) fun c fs' w' hfs hr => ?_
            subst hfs
            rw [hf]
            exact stepR_round_ret (by simp [mkB, hro]) rfl hr
        | region id o d =>
          cases d with
          | false => exact step0_out h hF hS hb hbl hp (tdOk_cons.2 ⟨trivial, hk⟩) (by rw [hf]; exact stepR_region)
          | true =>
            dsimp only
            split
            · next ch st hpl =>
              obtain ⟨M, W, p1, p2, p3⟩ := plan_at hpl
              have hk' := h.keep (w' := { w with drawn := w.drawn + 1 }) (Nat.le_refl _) (fun _ _ => rfl)
              refine ⟨x, L, _, _, fs, .one (by rw [hf]; exact stepR_region_draw), hk', ⟨lo, ⟨⟨tm, _, rfl, .drg rfl rfl hk p2 p3 (fun c hc => by cases hc) (fun i op _ _ he => by simp at he) ⟨sch_ok hm p1 _, Shut.nil M, fun i hi => by simp at hi, hp.size, fun d i hi => by simp at hi, fun d _ => hp.s d, fun d _ => rfl, fun i op _ he => by simp at he, fun p hp => by simp at hp, fun p hp => by simp at hp⟩ (pd := [])⟩, hF.sz, hF.ro, hF.df, hF.lo⟩, hS⟩, by rw [← hb]; cases cs <;> rfl, hbl.trans ⟨rfl, rfl, rfl, Nat.le_refl _, fun _ _ => rfl⟩⟩
            · trivial
        | rangeFunc y ps asg bd =>
          dsimp only
          split
          · next gf fst caps hev hn =>
            have hn : H.n + 2 < 1000000 := by simpa [Nat.blt_eq] using hn
            cases hro : fr.ro with
            | none =>
              dsimp only
              have n1 := hr_df h (by omega)
              have n2 := hr_lp (T := fr.T) (tm := tm) (fn := fr.fn) (ps := ps) (asg := asg) (bd := bd) (d := H.n) n1.hr (by show H.n + 1 + 1 < 1000000; omega) (fun d => (hp.s d).mono n1.ext n1.sub) (.inr rfl) hp.size
              have := loop_out (df1 := H.n :: fr.df) (mark := [⟨.collected w.heap.size, #[]⟩]) hP h hF hS hb hbl hp ht hev (n1.trans n2) (lb := H.n + 1) (.inr rfl) ?_ ?_ ?_
              · rw [hro] at this
                exact this
              · have e1 : mkD (Gh.up (Gh.up x H.n (w.heap.size, 0)) (H.new .df).n ((w.alloc (.deferred (some []))).heap.size, 0)) fr.df = mkD x fr.df := mkD_ext (n1.trans n2).ext hF.df
                have e2 : (Gh.up (Gh.up x H.n (w.heap.size, 0)) (H.new .df).n ((w.alloc (.deferred (some []))).heap.size, 0)) H.n = (w.heap.size, 0) := by
                  rw [Gh.up_ne _ _ (show H.n ≠ (H.new .df).n by show H.n ≠ H.n + 1; omega), Gh.up_at]
                show _ :: mkD _ fr.df = _
                rw [e1]
                dsimp only
                rw [e2]
                rfl
              · intro b hb
                rcases List.mem_cons.1 hb with rfl | hb
                · exact .inl (.inr rfl)
                · exact .inl (.inl (hF.df b hb))
              · rw [hro]
                have e2 : (Gh.up x H.n (w.heap.size, 0)) H.n = (w.heap.size, 0) := Gh.up_at _ _ _
                have e3 : (Gh.up (Gh.up x H.n (w.heap.size, 0)) (H.new .df).n ((w.alloc (.deferred (some []))).heap.size, 0)) (H.n + 1) = (w.heap.size + 1, 0) := by
                  rw [show H.n + 1 = (H.new .df).n from rfl, Gh.up_at]
                  simp
                rw [e3, e2]
                exact run_enterLoop_outer _ _ _ _ _
            | some l =>
              dsimp only
              split
              · next st pend fn T tz ps' asg' bd' d hg =>
                obtain ⟨tm', g1, g2, g3⟩ := lp_at h (hF.ro l hro) hg
                have n2 := hr_lp (T := fr.T) (tm := tm) (fn := fr.fn) (ps := ps) (asg := asg) (bd := bd) (d := d) h (by omega) hp.s g2 hp.size
                have := loop_out (df1 := fr.df) (mark := []) hP h hF hS hb hbl hp ht hev n2 (lb := H.n) (.inr rfl) ?_ ?_ ?_
                · rw [hro] at this
                  exact this
                · rw [List.nil_append]
                  exact mkD_ext n2.ext hF.df
                · exact fun b hb => .inl (hF.df b hb)
                · rw [hro, Gh.up_at]
                  exact run_enterLoop_inner g1 _ _ _ _ _
              · trivial
          · trivial
        | _ => trivial
      | _ => trivial
theorem aRun_out (hP : PrimOk P prim) (hm : P.follows .mixedOrders = true) : ∀ (n : Nat) {s : MSt} {x : Gh} {L : Nat → Prop} {w : World} {f : Frame} {fs : List Frame}, StR P base g c0 w0 x L w s f fs → Out P base g c0 w0 (lone f fs w) (aRun P prim n s)
  | 0, s, x, L, w, f, fs, h => ⟨x, L, w, f, fs, .refl _ _, h⟩
  | n + 1, s, x, L, w, f, fs, h => by
    have h1 := aStep_out hP hm h
    rw [aRun]
    split
    · next s' hs =>
      rw [hs] at h1
      obtain ⟨x', L', w', f', fs', g1, g2⟩ := h1
      exact Out.of_steps g1 (aRun_out hP hm n g2)
    · next r hr => exact h1
end
end Go.Proofs.YtklanoppbbaolaaGreat
