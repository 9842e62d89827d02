/- Texts in one: Open, OpnC. -/
import Derived.Lib.SmallJoins
import Derived.Test.YtkfhpefmmhljmaaGreatDoorRows
import Derived.Test.YtkfhpefmmhljmaaGreatDoorF11
set_option linter.unusedVariables false
set_option linter.unusedSimpArgs false
set_option maxHeartbeats 16000000
set_option maxRecDepth 100000
namespace Go.Proofs.YtkfhpefmmhljmaaGreatDoor
open Go.ChangeShapes Go.WideShapes Go.ChangeAt Go.RowKit Go.Deep Go.Joins
theorem Tryz.own : ownKnob Tryz.prog.godebug = none := by kernel_rfl
theorem Tryz.laidOut : laidOutB Tryz.prog = true := by kernel_rfl
section
variable {H : Type} {enc : TypeId × Value → H} {P : Program}
theorem kK {W W' : World} {sp : Nat → Bool} (hl : laidOutB P = true) : ∀ {ts : List TypeId} {vs : List Value} {ds : List (DataW H)} {ps : List MemPlace}, (∀ t ∈ ts, P.readableRec t = true ∧ t < P.types.size) →
  DataW.TrodAll enc P W 0 (fun _ => true) true ts vs ds ps → (∀ p ∈ ps, W.sameAt W' p) → (∀ p ∈ ps, sp p.block = true) → DataW.TrodAll enc P W' 0 sp true ts vs ds ps
 | [], vs, ds, ps, _, h, _, _ => by
  obtain ⟨rfl, rfl, rfl⟩ := trodAll_nil h;exact rfl
 | t :: ts, vs, ds, ps, hts, h, h1, h2 => by
  obtain ⟨v, vs', d, ds', p, q, rfl, rfl, rfl, hv, hr⟩ := trodAll_cons h;exact trodAll_cons_mk (WideElems.Trod_stays hl (hts t (by simp)).1 (hts t (by simp)).2 hv (fun x hx => h1 x (by simp [hx])) (fun x hx => h2 x (by simp [hx])))
   (kK hl (fun x hx => hts x (by simp [hx])) hr (fun x hx => h1 x (by simp [hx])) (fun x hx => h2 x (by simp [hx])))
theorem sN {f : Func} {s : ChangeSpec} {tb : TypeId} {W W' : World} {args : Array Value} {ds gs : List (DataW H)} {before : List MemPlace}
  (hlo : laidOutB P = true) (hts : ∀ t ∈ f.params.toList, P.readableRec t = true ∧ t < P.types.size) (hrt : f.resultTypes = #[tb]) (htb : P.underlying tb = some .bool) (hsv : s.vars = [])
  (hW : DataW.Whole enc P f.params.toList s.vars false W args.toList ds gs before)
  (hres : (s.fn H (ds ++ gs)).results = [.lit (.bool true)]) (harg : (s.fn H (ds ++ gs)).args = ds) (hvr : (s.fn H (ds ++ gs)).vars = []) (hb : Below W.heap.size W W') :
  s.post enc P f false true false false W args (.bool true) W' := by
 have hlt : ∀ p ∈ before, p.block < W.heap.size := fun p hp => hW.lt p hp
 have hW' := hW;obtain ⟨p, q, hA, hV, rfl, hz, hn⟩ := hW';rw [hsv] at hV;obtain ⟨rfl, rfl⟩ := trodVars_none hV;rw [κp] at hlt;have hstay : ∀ sp : Nat → Bool, (∀ x ∈ p, sp x.block = true) → DataW.TrodAll enc P W' 0 sp true f.params.toList args.toList ds p := fun sp hsp =>
  kK hlo hts hA (fun x hx => hb.same (hlt x hx)) hsp
 have hold : ∀ x ∈ p, (fun b => decide (b < W.heap.size)) x.block = true := fun x hx => by simpa using hlt x hx
 have hr : ∀ (b : Nat) (sp : Nat → Bool) (hd : Bool), DataW.TrodAll enc P W' b sp hd f.resultTypes.toList ((Value.bool true).resultList f.resultTypes.size) (s.fn H (ds ++ [])).results [] := by
  intro b sp hd;rw [hres, hrt];exact trodAll_cons_mk (shut_bool htb _) trodAll_mk0
 refine ⟨ds, [], p ++ [], [], p, [], hW, hr _ _ _, ?_, ?_, World.keptBut_mono (fun x hx => ⟨hx, .inr ?_⟩) (hb.frame (· ∈ p ++ [])), fun h => by cases h⟩
 ·rw [harg]; exact hstay _ hold
 ·rw [hsv, hvr]; exact rfl
 ·simpa using hx
end
section
variable {H : Type} {enc : TypeId × Value → H} {P : Program} {w : World} {base : Nat} {spare : Nat → Bool} {held : Bool}
theorem yG {t e : TypeId} {fs : Array Field} {fuel : Nat} {cs : List Value} {x : DataW H × List MemPlace} (ht : P.underlying t = some (.slice e)) (he : P.underlying e = some (.struct fs))
  (hone : oneCellFields P fs = true) (hC : P.cellsOf e = fs.size) (h : DataW.trod enc P w base spare held fuel t cs = some x) :
  (cs = [.slice none 0 0]) ∨
  ∃ (a : Addr) (len cap : Nat), cs = [.slice (some a) len cap] ∧ len ≤ cap ∧
   ∀ i, i < len → ∃ (n : Nat), ∀ (j : Nat) (f : Field), fs[j]? = some f → ∃ (v : Value) (y : DataW H × List MemPlace), w.cell? (a.add (i * fs.size + j)) = some v ∧ DataW.trod enc P w base spare held n f.type [v] = some y := by
 rcases open_slice ht h with h0 | ⟨a, len, cap, m, n, D, Pl, hcs, hb, hl, hm, hmm, hx, hi⟩
 ·exact .inl h0.1
 ·refine .inr ⟨a, len, cap, hcs, hl, fun i him => ?_⟩;obtain ⟨cs', hc, ht'⟩ := hi i (by rw [hmm]; split <;> omega);rw [hC] at hc;obtain ⟨ys, n', hn', hy, hlen, hyl, hf⟩ := DataW.trod_struct he ht';obtain ⟨_, hcl, hat⟩ := World.cells?_some hc;refine ⟨n', fun j f hj => ?_⟩;obtain ⟨ho, hk⟩ := hone_of hone j f hj;have hjl : j < fs.size := (κi hj).1;have hcell := hat j hjl;have hv : cs'[j]? = some (cs'[j]'(by omega)) := κg (by omega);have h1 := hf j f hj;rw [ho, hk] at h1;have hone' : (cs'.drop j).take 1 = [cs'[j]'(by omega)] := by
   rw [List.drop_eq_getElem_cons (by omega)];rfl
  rw [hone'] at h1;have hys : ys[j]? = some (ys[j]'(by omega)) := κg (by omega);exact ⟨_, _, by rw [← Go.Deep.add_add, hcell, hv], h1.trans hys⟩
end
section
variable {H : Type} {enc : TypeId × Value → H} {W : World} {base b0 : Nat} {d : DataW H} {p : List MemPlace} {v : Value}
theorem rH (b off i : Nat) : (⟨b, off, none⟩ : Addr).add i = ⟨b, off + i, none⟩ := by unfold Addr.add; split <;> simp_all
theorem xT {α : Type} {E : Enc α} (zz : α) {t e : TypeId} {fs : Array Field} {fuel : Nat} {x : DataW H × List MemPlace} (ht : Tryz.prog.underlying t = some (.slice e)) (he : Tryz.prog.underlying e = some (.struct fs))
  (hone : oneCellFields Tryz.prog fs = true) (hC : Tryz.prog.cellsOf e = fs.size) (hn0 : 0 < fs.size)
  (helem : ∀ (k : Nat) (c : List Value), c.length = fs.size → (∀ (j : Nat) (f : Field), fs[j]? = some f → ∃ (v : Value) (y : DataW H × List MemPlace), c[j]? = some v ∧ DataW.trod enc Tryz.prog W 0 (fun _ => true) true k f.type [v] = some y) → ∃ z, E W W c z)
  (h : DataW.trod enc Tryz.prog W 0 (fun _ => true) true fuel t [v] = some x) :
  ∃ (A : Option Addr) (l : List α) (c : Nat), v = .slice A l.length c ∧ l.length ≤ c ∧ RowR E fs.size W W A l := by
 rcases yG ht he hone hC h with hcs | ⟨a, len, cap, hcs, hl, hi⟩
 ·simp at hcs;subst hcs;exact ⟨none, [], 0, rfl, νr _, RowR.nil_⟩
 ·simp at hcs;subst hcs;have each : ∀ i, i < len → ∃ (c : List Value) (z : α), c.length = fs.size ∧ E W W c z ∧ ∀ (j : Nat) v, c[j]? = some v → W.cell? (a.add (i * fs.size + j)) = some v := by
   intro i hil;obtain ⟨k, hk⟩ := hi i hil;have hcell : ∀ (j : Nat) v, ((List.range fs.size).map fun j => (W.cell? (a.add (i * fs.size + j))).getD (.bool false))[j]? = some v → W.cell? (a.add (i * fs.size + j)) = some v := by
    intro j v hv;rw [List.getElem?_map] at hv;by_cases hj : j < fs.size
    ·rw [List.getElem?_range hj, Option.map_some] at hv;obtain ⟨u, y, h1, _⟩ := hk j fs[j] (Array.getElem?_eq_getElem hj);rw [h1] at hv ⊢;simpa using hv
    ·rw [List.getElem?_eq_none (by simp; omega)] at hv; cases hv
   obtain ⟨z, hz⟩ := helem k ((List.range fs.size).map fun j => (W.cell? (a.add (i * fs.size + j))).getD (.bool false)) (by simp) (fun j f hj => by
    obtain ⟨u, y, h1, h2⟩ := hk j f hj;have hjl : j < fs.size := (κi hj).1;refine ⟨u, y, ?_, h2⟩;rw [List.getElem?_map, List.getElem?_range hjl, Option.map_some, h1];rfl)
   exact ⟨_, z, by simp, hz, hcell⟩
  obtain ⟨f, hf⟩ : ∃ f : Nat → List Value × α, ∀ i, i < len → (f i).1.length = fs.size ∧ E W W (f i).1 (f i).2 ∧ ∀ (j : Nat) v, (f i).1[j]? = some v → W.cell? (a.add (i * fs.size + j)) = some v := by
   have each' : ∀ i, ∃ cz : List Value × α, i < len → cz.1.length = fs.size ∧ E W W cz.1 cz.2 ∧ ∀ (j : Nat) v, cz.1[j]? = some v → W.cell? (a.add (i * fs.size + j)) = some v := fun i => by
    by_cases hi : i < len
    ·obtain ⟨c, z, h1, h2, h3⟩ := each i hi;exact ⟨(c, z), fun _ => ⟨h1, h2, h3⟩⟩
    ·exact ⟨([], zz), fun h => absurd h hi⟩
   exact ⟨fun i => Classical.choose (each' i), fun i => Classical.choose_spec (each' i)⟩
  refine ⟨some a, (List.range len).map (fun i => (f i).2), cap, by simp, by simpa using hl, (List.range len).map (fun i => (f i).1), by simp, ?_, ?_, fun hn => ?_⟩
  ·intro c hc;obtain ⟨i, hi, rfl⟩ := List.mem_map.1 hc;exact (hf i (List.mem_range.1 hi)).1
  ·intro i c z hc hz;rw [List.getElem?_map] at hc hz;by_cases hi : i < len
   ·rw [List.getElem?_range hi] at hc hz;simp at hc hz;subst hc; subst hz;exact (hf i hi).2.1
   ·rw [List.getElem?_eq_none (by simp; omega)] at hc; cases hc
  ·simp at hn;obtain ⟨b, off, spot⟩ := a;have h00 : ∃ v, (f 0).1[0]? = some v := ⟨_, κg (by rw [(hf 0 hn).1]; exact hn0)⟩;obtain ⟨v, hv⟩ := h00;have hc0 := (hf 0 hn).2.2 0 v hv;obtain rfl : spot = none := by simpa [Addr.add] using World.cell?_spot hc0
   rw [rH] at hc0;refine ⟨b, off, rfl, World.block_lt_of_cell? W _ hc0, fun i j c v hc hv => ?_⟩;rw [List.getElem?_map] at hc;by_cases hi : i < len
   ·rw [List.getElem?_range hi] at hc;simp at hc;subst hc;have := (hf i hi).2.2 j v hv;rw [rH, ← Nat.add_assoc] at this;exact this
   ·rw [List.getElem?_eq_none (by simp; omega)] at hc; cases hc
theorem aA : ∃ f0 f1 : Field, Tryz.prog.underlying 205 = some (.struct #[f0, f1]) ∧ oneCellFields Tryz.prog #[f0, f1] = true ∧ Tryz.prog.underlying f0.type = some (.int .i64) ∧ Tryz.prog.underlying f1.type = some (.int .i64) :=
 ⟨_, _, Tryz.underlying205, by kernel_rfl, by kernel_rfl, by kernel_rfl⟩
theorem bS : Tryz.prog.cellsOf 205 = 2 := by kernel_rfl
theorem cX {k : Nat} {v : Value} {x : DataW H × List MemPlace} (hf : DataW.trod enc Tryz.prog W 0 (fun _ => true) true k 60 [v] = some x) :
  ∃ (A : Option Addr) (l : List St) (c : Nat), v = .slice A l.length c ∧ l.length ≤ c ∧ RowR StE 2 W W A l := by
 obtain ⟨f0, f1, hu, hone, u0, u1⟩ := aA;refine xT (fs := #[f0, f1]) (0, 0) Tryz.underlying60 hu hone bS (by simp) (fun k c hl hc => ?_) hf;rcases c with _ | ⟨a0, _ | ⟨a1, _ | ⟨_, _⟩⟩⟩ <;> simp at hl
 obtain ⟨v0, y0, e0, t0⟩ := hc 0 f0 rfl;obtain rfl : a0 = v0 := by simpa using e0
 obtain ⟨z0, g0, _⟩ := DataW.trod_int u0 t0;simp at g0;subst g0;obtain ⟨v1, y1, e1, t1⟩ := hc 1 f1 rfl;obtain rfl : a1 = v1 := by simpa using e1
 obtain ⟨z1, g1, _⟩ := DataW.trod_int u1 t1;simp at g1;subst g1;exact ⟨(z0, z1), rfl⟩
theorem aS : ∃ f0 f1 f2 f3 : Field, Tryz.prog.underlying 127 = some (.struct #[f0, f1, f2, f3]) ∧ oneCellFields Tryz.prog #[f0, f1, f2, f3] = true ∧ Tryz.prog.underlying f0.type = some (.int .i64) ∧ Tryz.prog.underlying f1.type = some (.int .i64) ∧ Tryz.prog.underlying f2.type = some (.int .i64) ∧ Tryz.prog.underlying f3.type = some (.int .i64) :=
 ⟨_, _, _, _, Tryz.underlying127, by kernel_rfl, by kernel_rfl, by kernel_rfl, by kernel_rfl, by kernel_rfl⟩
theorem eF : Tryz.prog.cellsOf 127 = 4 := by kernel_rfl
theorem iT {k : Nat} {v : Value} {x : DataW H × List MemPlace} (hf : DataW.trod enc Tryz.prog W 0 (fun _ => true) true k 22 [v] = some x) :
  ∃ (A : Option Addr) (l : List Ln) (c : Nat), v = .slice A l.length c ∧ l.length ≤ c ∧ RowR LnE 4 W W A l := by
 obtain ⟨f0, f1, f2, f3, hu, hone, u0, u1, u2, u3⟩ := aS;refine xT (fs := #[f0, f1, f2, f3]) (0, 0, 0, 0) Tryz.underlying22 hu hone eF (by simp) (fun k c hl hc => ?_) hf;rcases c with _ | ⟨a0, _ | ⟨a1, _ | ⟨a2, _ | ⟨a3, _ | ⟨_, _⟩⟩⟩⟩⟩ <;> simp at hl
 obtain ⟨v0, y0, e0, t0⟩ := hc 0 f0 rfl;obtain rfl : a0 = v0 := by simpa using e0
 obtain ⟨z0, g0, _⟩ := DataW.trod_int u0 t0;simp at g0;subst g0;obtain ⟨v1, y1, e1, t1⟩ := hc 1 f1 rfl;obtain rfl : a1 = v1 := by simpa using e1
 obtain ⟨z1, g1, _⟩ := DataW.trod_int u1 t1;simp at g1;subst g1;obtain ⟨v2, y2, e2, t2⟩ := hc 2 f2 rfl;obtain rfl : a2 = v2 := by simpa using e2
 obtain ⟨z2, g2, _⟩ := DataW.trod_int u2 t2;simp at g2;subst g2;obtain ⟨v3, y3, e3, t3⟩ := hc 3 f3 rfl;obtain rfl : a3 = v3 := by simpa using e3
 obtain ⟨z3, g3, _⟩ := DataW.trod_int u3 t3;simp at g3;subst g3;exact ⟨(z0, z1, z2, z3), rfl⟩
theorem aO : ∃ f0 f1 f2 f3 : Field, Tryz.prog.underlying 53 = some (.struct #[f0, f1, f2, f3]) ∧ oneCellFields Tryz.prog #[f0, f1, f2, f3] = true ∧ Tryz.prog.underlying f0.type = some (.int .u8) ∧ Tryz.prog.underlying f1.type = some (.int .i64) ∧ Tryz.prog.underlying f2.type = some (.int .i64) ∧ Tryz.prog.underlying f3.type = some (.int .i64) :=
 ⟨_, _, _, _, Tryz.underlying53, by kernel_rfl, by kernel_rfl, by kernel_rfl, by kernel_rfl, by kernel_rfl⟩
theorem eB : Tryz.prog.cellsOf 53 = 4 := by kernel_rfl
theorem iS {k : Nat} {v : Value} {x : DataW H × List MemPlace} (hf : DataW.trod enc Tryz.prog W 0 (fun _ => true) true k 27 [v] = some x) :
  ∃ (A : Option Addr) (l : List Og) (c : Nat), v = .slice A l.length c ∧ l.length ≤ c ∧ RowR OgE' 4 W W A l := by
 obtain ⟨f0, f1, f2, f3, hu, hone, u0, u1, u2, u3⟩ := aO;refine xT (fs := #[f0, f1, f2, f3]) (0, 0, 0, 0) Tryz.underlying27 hu hone eB (by simp) (fun k c hl hc => ?_) hf;rcases c with _ | ⟨a0, _ | ⟨a1, _ | ⟨a2, _ | ⟨a3, _ | ⟨_, _⟩⟩⟩⟩⟩ <;> simp at hl
 obtain ⟨v0, y0, e0, t0⟩ := hc 0 f0 rfl;obtain rfl : a0 = v0 := by simpa using e0
 obtain ⟨z0, g0, _⟩ := DataW.trod_int u0 t0;simp at g0;subst g0;obtain ⟨v1, y1, e1, t1⟩ := hc 1 f1 rfl;obtain rfl : a1 = v1 := by simpa using e1
 obtain ⟨z1, g1, _⟩ := DataW.trod_int u1 t1;simp at g1;subst g1;obtain ⟨v2, y2, e2, t2⟩ := hc 2 f2 rfl;obtain rfl : a2 = v2 := by simpa using e2
 obtain ⟨z2, g2, _⟩ := DataW.trod_int u2 t2;simp at g2;subst g2;obtain ⟨v3, y3, e3, t3⟩ := hc 3 f3 rfl;obtain rfl : a3 = v3 := by simpa using e3
 obtain ⟨z3, g3, _⟩ := DataW.trod_int u3 t3;simp at g3;subst g3;exact ⟨(z0, z1, z2, z3), rfl⟩
theorem aB : ∃ f0 f1 f2 : Field, Tryz.prog.underlying 51 = some (.struct #[f0, f1, f2]) ∧ oneCellFields Tryz.prog #[f0, f1, f2] = true ∧ Tryz.prog.underlying f0.type = some (.int .i64) ∧ Tryz.prog.underlying f1.type = some (.int .i64) ∧ Tryz.prog.underlying f2.type = some (.int .i64) :=
 ⟨_, _, _, Tryz.underlying51, by kernel_rfl, by kernel_rfl, by kernel_rfl, by kernel_rfl⟩
theorem cA : Tryz.prog.cellsOf 51 = 3 := by kernel_rfl
theorem iR {k : Nat} {v : Value} {x : DataW H × List MemPlace} (hf : DataW.trod enc Tryz.prog W 0 (fun _ => true) true k 28 [v] = some x) :
  ∃ (A : Option Addr) (l : List Rt) (c : Nat), v = .slice A l.length c ∧ l.length ≤ c ∧ RowR RtE 3 W W A l := by
 obtain ⟨f0, f1, f2, hu, hone, u0, u1, u2⟩ := aB;refine xT (fs := #[f0, f1, f2]) (0, 0, 0) Tryz.underlying28 hu hone cA (by simp) (fun k c hl hc => ?_) hf;rcases c with _ | ⟨a0, _ | ⟨a1, _ | ⟨a2, _ | ⟨_, _⟩⟩⟩⟩ <;> simp at hl
 obtain ⟨v0, y0, e0, t0⟩ := hc 0 f0 rfl;obtain rfl : a0 = v0 := by simpa using e0
 obtain ⟨z0, g0, _⟩ := DataW.trod_int u0 t0;simp at g0;subst g0;obtain ⟨v1, y1, e1, t1⟩ := hc 1 f1 rfl;obtain rfl : a1 = v1 := by simpa using e1
 obtain ⟨z1, g1, _⟩ := DataW.trod_int u1 t1;simp at g1;subst g1;obtain ⟨v2, y2, e2, t2⟩ := hc 2 f2 rfl;obtain rfl : a2 = v2 := by simpa using e2
 obtain ⟨z2, g2, _⟩ := DataW.trod_int u2 t2;simp at g2;subst g2;exact ⟨(z0, z1, z2), rfl⟩
theorem bG : ∃ f0 f1 : Field, Tryz.prog.underlying 133 = some (.struct #[f0, f1]) ∧ oneCellFields Tryz.prog #[f0, f1] = true ∧ Tryz.prog.underlying f0.type = some (.int .i64) ∧ f1.type = 60 :=
 ⟨_, _, Tryz.underlying133, by kernel_rfl, by kernel_rfl, rfl⟩
theorem rG : Tryz.prog.cellsOf 133 = 2 := by kernel_rfl
theorem cZ {k : Nat} {v : Value} {x : DataW H × List MemPlace} (hf : DataW.trod enc Tryz.prog W 0 (fun _ => true) true k 47 [v] = some x) :
  ∃ (A : Option Addr) (l : List Bd) (c : Nat), v = .slice A l.length c ∧ l.length ≤ c ∧ RowR BdR 2 W W A l := by
 obtain ⟨f0, f1, hu, hone, u0, u1⟩ := bG;refine xT (fs := #[f0, f1]) bd0 Tryz.underlying47 hu hone rG (by simp) (fun k c hl hc => ?_) hf;rcases c with _ | ⟨a0, _ | ⟨a1, _ | ⟨_, _⟩⟩⟩ <;> simp at hl
 obtain ⟨v0, y0, e0, t0⟩ := hc 0 f0 rfl;obtain rfl : a0 = v0 := by simpa using e0
 obtain ⟨z0, g0, _⟩ := DataW.trod_int u0 t0;simp at g0;subst g0;obtain ⟨v1, y1, e1, t1⟩ := hc 1 f1 rfl;obtain rfl : a1 = v1 := by simpa using e1
 rw [u1] at t1;obtain ⟨A1, l1, c1, rfl, h1, r1⟩ := cX t1;exact ⟨⟨z0, l1⟩, A1, c1, rfl, h1, r1⟩
theorem nX : ∃ f0 f1 f2 f3 f4 f5 f6 f7 f8 : Field, Tryz.prog.underlying 62 = some (.struct #[f0, f1, f2, f3, f4, f5, f6, f7, f8]) ∧ oneCellFields Tryz.prog #[f0, f1, f2, f3, f4, f5, f6, f7, f8] = true ∧ Tryz.prog.underlying f0.type = some (.int .i64) ∧ Tryz.prog.underlying f1.type = some (.int .i64) ∧ f2.type = 60 ∧ Tryz.prog.underlying f3.type = some (.int .i64) ∧ Tryz.prog.underlying f4.type = some (.int .i64) ∧ Tryz.prog.underlying f5.type = some (.int .i64) ∧ Tryz.prog.underlying f6.type = some (.int .i64) ∧ Tryz.prog.underlying f7.type = some (.int .i64) ∧ Tryz.prog.underlying f8.type = some (.int .i64) :=
 ⟨_, _, _, _, _, _, _, _, _, Tryz.underlying62, by kernel_rfl, by kernel_rfl, by kernel_rfl, rfl, by kernel_rfl, by kernel_rfl, by kernel_rfl, by kernel_rfl, by kernel_rfl, by kernel_rfl⟩
theorem bO : Tryz.prog.cellsOf 62 = 9 := by kernel_rfl
theorem iQ {k : Nat} {v : Value} {x : DataW H × List MemPlace} (hf : DataW.trod enc Tryz.prog W 0 (fun _ => true) true k 25 [v] = some x) :
  ∃ (A : Option Addr) (l : List Un) (c : Nat), v = .slice A l.length c ∧ l.length ≤ c ∧ RowR UnR 9 W W A l := by
 obtain ⟨f0, f1, f2, f3, f4, f5, f6, f7, f8, hu, hone, u0, u1, u2, u3, u4, u5, u6, u7, u8⟩ := nX;refine xT (fs := #[f0, f1, f2, f3, f4, f5, f6, f7, f8]) un0 Tryz.underlying25 hu hone bO (by simp) (fun k c hl hc => ?_) hf;rcases c with _ | ⟨a0, _ | ⟨a1, _ | ⟨a2, _ | ⟨a3, _ | ⟨a4, _ | ⟨a5, _ | ⟨a6, _ | ⟨a7, _ | ⟨a8, _ | ⟨_, _⟩⟩⟩⟩⟩⟩⟩⟩⟩⟩ <;> simp at hl
 obtain ⟨v0, y0, e0, t0⟩ := hc 0 f0 rfl;obtain rfl : a0 = v0 := by simpa using e0
 obtain ⟨z0, g0, _⟩ := DataW.trod_int u0 t0;simp at g0;subst g0;obtain ⟨v1, y1, e1, t1⟩ := hc 1 f1 rfl;obtain rfl : a1 = v1 := by simpa using e1
 obtain ⟨z1, g1, _⟩ := DataW.trod_int u1 t1;simp at g1;subst g1;obtain ⟨v2, y2, e2, t2⟩ := hc 2 f2 rfl;obtain rfl : a2 = v2 := by simpa using e2
 rw [u2] at t2;obtain ⟨A2, l2, c2, rfl, h2, r2⟩ := cX t2;obtain ⟨v3, y3, e3, t3⟩ := hc 3 f3 rfl;obtain rfl : a3 = v3 := by simpa using e3
 obtain ⟨z3, g3, _⟩ := DataW.trod_int u3 t3;simp at g3;subst g3;obtain ⟨v4, y4, e4, t4⟩ := hc 4 f4 rfl;obtain rfl : a4 = v4 := by simpa using e4
 obtain ⟨z4, g4, _⟩ := DataW.trod_int u4 t4;simp at g4;subst g4;obtain ⟨v5, y5, e5, t5⟩ := hc 5 f5 rfl;obtain rfl : a5 = v5 := by simpa using e5
 obtain ⟨z5, g5, _⟩ := DataW.trod_int u5 t5;simp at g5;subst g5;obtain ⟨v6, y6, e6, t6⟩ := hc 6 f6 rfl;obtain rfl : a6 = v6 := by simpa using e6
 obtain ⟨z6, g6, _⟩ := DataW.trod_int u6 t6;simp at g6;subst g6;obtain ⟨v7, y7, e7, t7⟩ := hc 7 f7 rfl;obtain rfl : a7 = v7 := by simpa using e7
 obtain ⟨z7, g7, _⟩ := DataW.trod_int u7 t7;simp at g7;subst g7;obtain ⟨v8, y8, e8, t8⟩ := hc 8 f8 rfl;obtain rfl : a8 = v8 := by simpa using e8
 obtain ⟨z8, g8, _⟩ := DataW.trod_int u8 t8;simp at g8;subst g8;exact ⟨⟨z0, z1, l2, z3, z4, z5, z6, z7, z8⟩, A2, c2, rfl, h2, r2⟩
theorem aX : ∃ f0 f1 f2 : Field, Tryz.prog.underlying 49 = some (.struct #[f0, f1, f2]) ∧ oneCellFields Tryz.prog #[f0, f1, f2] = true ∧ f0.type = 47 ∧ f1.type = 47 ∧ Tryz.prog.underlying f2.type = some (.int .i64) :=
 ⟨_, _, _, Tryz.underlying49, by kernel_rfl, rfl, rfl, by kernel_rfl⟩
theorem eO : Tryz.prog.cellsOf 49 = 3 := by kernel_rfl
theorem iU {k : Nat} {v : Value} {x : DataW H × List MemPlace} (hf : DataW.trod enc Tryz.prog W 0 (fun _ => true) true k 26 [v] = some x) :
  ∃ (A : Option Addr) (l : List Hr) (c : Nat), v = .slice A l.length c ∧ l.length ≤ c ∧ RowR HrR 3 W W A l := by
 obtain ⟨f0, f1, f2, hu, hone, u0, u1, u2⟩ := aX;refine xT (fs := #[f0, f1, f2]) hr0 Tryz.underlying26 hu hone eO (by simp) (fun k c hl hc => ?_) hf;rcases c with _ | ⟨a0, _ | ⟨a1, _ | ⟨a2, _ | ⟨_, _⟩⟩⟩⟩ <;> simp at hl
 obtain ⟨v0, y0, e0, t0⟩ := hc 0 f0 rfl;obtain rfl : a0 = v0 := by simpa using e0
 rw [u0] at t0;obtain ⟨A0, l0, c0, rfl, h0, r0⟩ := cZ t0;obtain ⟨v1, y1, e1, t1⟩ := hc 1 f1 rfl;obtain rfl : a1 = v1 := by simpa using e1
 rw [u1] at t1;obtain ⟨A1, l1, c1, rfl, h1, r1⟩ := cZ t1;obtain ⟨v2, y2, e2, t2⟩ := hc 2 f2 rfl;obtain rfl : a2 = v2 := by simpa using e2
 obtain ⟨z2, g2, _⟩ := DataW.trod_int u2 t2;simp at g2;subst g2;exact ⟨⟨l0, l1, z2⟩, A0, c0, A1, c1, rfl, h0, h1, r0, r1⟩
theorem mD : ∃ f0 f1 : Field, Tryz.prog.underlying 24 = some (.struct #[f0, f1]) ∧ oneCellFields Tryz.prog #[f0, f1] = true ∧ Tryz.prog.underlying f0.type = some (.int .i64) ∧ f1.type = 22 :=
 ⟨_, _, Tryz.underlying24, by kernel_rfl, by kernel_rfl, rfl⟩
theorem pL : ∃ f0 f1 f2 f3 f4 : Field, Tryz.prog.underlying 30 = some (.struct #[f0, f1, f2, f3, f4]) ∧ (f0.type = 24 ∧ f0.offset = 0) ∧ (f1.type = 25 ∧ f1.offset = 2) ∧ (f2.type = 26 ∧ f2.offset = 3) ∧ (f3.type = 27 ∧ f3.offset = 4) ∧ (f4.type = 28 ∧ f4.offset = 5) :=
 ⟨_, _, _, _, _, Tryz.underlying30, ⟨rfl, rfl⟩, ⟨rfl, rfl⟩, ⟨rfl, rfl⟩, ⟨rfl, rfl⟩, ⟨rfl, rfl⟩⟩
theorem mS : Tryz.prog.cellsOf 30 = 6 := by kernel_rfl
theorem aR : Tryz.prog.cellsOf 24 = 2 := by kernel_rfl
theorem kO : Tryz.prog.cellsOf 25 = 1 ∧ Tryz.prog.cellsOf 26 = 1 ∧ Tryz.prog.cellsOf 27 = 1 ∧ Tryz.prog.cellsOf 28 = 1 := ⟨by kernel_rfl, by kernel_rfl, by kernel_rfl, by kernel_rfl⟩
theorem cY (hv : Value.okWide Tryz.prog W .any base 30 v) (h : DataW.Trod enc Tryz.prog W 0 (fun _ => true) true 30 v d p) :
  ∃ (x : Cs) (A1 A2 A3 A4 A5 : Option Addr) (c1 c2 c3 c4 c5 : Nat), v = .agg #[.int .i64 x.net.buses, .slice A1 x.net.lines.length c1, .slice A2 x.units.length c2, .slice A3 x.hours.length c3, .slice A4 x.outs.length c4, .slice A5 x.rights.length c5] ∧
   RowR LnE 4 W W A1 x.net.lines ∧ RowR UnR 9 W W A2 x.units ∧ RowR HrR 3 W W A3 x.hours ∧ RowR OgE' 4 W W A4 x.outs ∧ RowR RtE 3 W W A5 x.rights := by
 obtain ⟨f0, f1, f2, f3, f4, hu, ⟨u0, o0⟩, ⟨u1, o1⟩, ⟨u2, o2⟩, ⟨u3, o3⟩, ⟨u4, o4⟩⟩ := pL;obtain ⟨cs, rfl, hsz⟩ := okWide_struct hu hv;rw [mS] at hsz;obtain ⟨l⟩ := cs;replace hsz : l.length = 6 := hsz;rcases l with _ | ⟨a0, _ | ⟨a1, _ | ⟨a2, _ | ⟨a3, _ | ⟨a4, _ | ⟨a5, _ | ⟨_, _⟩⟩⟩⟩⟩⟩⟩ <;> simp at hsz
 obtain ⟨fuel, hf⟩ := h;obtain ⟨xs, n, _, _, _, hlen, hf⟩ := DataW.trod_struct hu hf;have e : (Value.agg #[a0, a1, a2, a3, a4, a5]).cells.toList = [a0, a1, a2, a3, a4, a5] := rfl;rw [e] at hf;have k0 := hf 0 f0 rfl;have k1 := hf 1 f1 rfl;have k2 := hf 2 f2 rfl;have k3 := hf 3 f3 rfl;have k4 := hf 4 f4 rfl;rw [u0, o0, aR] at k0;rw [u1, o1, kO.1] at k1;rw [u2, o2, kO.2.1] at k2;rw [u3, o3, kO.2.2.1] at k3;rw [u4, o4, kO.2.2.2] at k4;have hx : xs.length = 5 := hlen;rcases xs with _ | ⟨x0, _ | ⟨x1, _ | ⟨x2, _ | ⟨x3, _ | ⟨x4, _ | ⟨_, _⟩⟩⟩⟩⟩⟩ <;> simp at hx
 replace k0 : DataW.trod enc Tryz.prog W 0 (fun _ => true) true n 24 [a0, a1] = some x0 := k0;obtain ⟨m0, m1, hun, hone, w0, w1⟩ := mD;obtain ⟨y0, y1, n', _, _, q0, q1⟩ := trod_struct2 hun k0;obtain ⟨r0, s0⟩ := hone_of hone 0 m0 rfl;obtain ⟨r1, s1⟩ := hone_of hone 1 m1 rfl;rw [r0, s0] at q0;rw [r1, s1, w1] at q1;obtain ⟨nb, g0, _⟩ := DataW.trod_int w0 q0;simp at g0;subst g0;obtain ⟨A1, l1, c1, rfl, _, h1⟩ := iT (show DataW.trod enc Tryz.prog W 0 (fun _ => true) true n' 22 [a1] = some y1 from q1);obtain ⟨A2, l2, c2, rfl, _, h2⟩ := iQ (show DataW.trod enc Tryz.prog W 0 (fun _ => true) true n 25 [a2] = some x1 from k1);obtain ⟨A3, l3, c3, rfl, _, h3⟩ := iU (show DataW.trod enc Tryz.prog W 0 (fun _ => true) true n 26 [a3] = some x2 from k2);obtain ⟨A4, l4, c4, rfl, _, h4⟩ := iS (show DataW.trod enc Tryz.prog W 0 (fun _ => true) true n 27 [a4] = some x3 from k3);obtain ⟨A5, l5, c5, rfl, _, h5⟩ := iR (show DataW.trod enc Tryz.prog W 0 (fun _ => true) true n 28 [a5] = some x4 from k4);exact ⟨⟨⟨nb, l1⟩, l2, l3, l4, l5⟩, A1, A2, A3, A4, A5, c1, c2, c3, c4, c5, rfl, h1, h2, h3, h4, h5⟩
end
end Go.Proofs.YtkfhpefmmhljmaaGreatDoor
