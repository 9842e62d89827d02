/- Texts in one: AnyU, KnF. -/
import Derived.Test.YtkfhpefmmhljmaaGreatDoorR20
set_option linter.unusedVariables false
set_option linter.unusedSimpArgs false
set_option maxHeartbeats 16000000
set_option maxRecDepth 100000
namespace Go.Proofs.YtkfhpefmmhljmaaGreatDoor
open Go.RowKit
section
variable {P : Program} {ops : Array Oper} {Q : Exit → Act → World → Prop} {a0 : Act} {T : Tmp → Value} {N : List (Tmp × Value)} {W : World} {o o' : Oper}
def EffT (P : Program) (B : Nat) (w1 : World) (T : Tmp → Value) (N : List (Tmp × Value)) (W : World) (o : Oper) : Prop := o.guard = none ∧
 ((∃ u W', (execOp (EvT T) o).run P W = .ok (.value u) W' ∧ WantT T N o u ∧ Below B w1 W') ∨ (∃ W', (execOp (EvT T) o).run P W = .ok .skip W' ∧ o.dst = none ∧ Below B w1 W') ∨
  ∃ f args, (execOp (EvT T) o).run P W = .ok (.enter f args) W ∧ Calls P f args W fun e w' => ∃ u, e = .returned u ∧ WantT T N o u ∧ Below B w1 w')
theorem zCq {B : Nat} {w1 W' : World} (h : (execOp (EvT T) o).run P W = .ok .skip W') (hb : Below B w1 W') (hg : o.guard = none := by rfl) (hd : o.dst = none := by rfl) : EffT P B w1 T N W o := ⟨hg, .inr (.inl ⟨W', h, hd, hb⟩)⟩
theorem wY {B : Nat} {w1 : World} {d : Tmp} (f : FuncId) (args : Array Value) (h : (execOp (EvT T) o).run P W = .ok (.enter f args) W) (hc : Calls P f args W fun e w' => e = .returned (valT T N d) ∧ Below B w1 w') (hg : o.guard = none := by rfl) (hd : o.dst = some d := by rfl) : EffT P B w1 T N W o :=
 ⟨hg, .inr (.inr ⟨f, args, h, hc.mono fun e w' ⟨he, hb⟩ => ⟨_, he, fun d' hd' => by rw [hd] at hd'; injection hd' with hd'; rw [hd'], hb⟩⟩)⟩
theorem uL {B : Nat} {w w' : World} (h : Below B w w') (p : Addr) (v : Value) : Below B (w.setCell p v) (w'.setCell p v) :=
 ⟨h.os, h.tape, h.output, by simpa [World.setCell] using h.size, fun k hk => by
  simp only [World.setCell, Array.getElem?_modify];split
  ·rw [h.block k hk]
  ·exact h.block k hk⟩
theorem dT {id : Nat} {w0 : World} (w1 : World) (n : Nat) (L N : List (Tmp × Value)) (outs : List Tmp) (hm : P.follows .mixedOrders = true) (hle : w0.heap.size ≤ w1.heap.size) (hok : (xE ops a0.tmps.size && okT ops outs N (look L) && uT L) = true)
  (hout : outs.map (fun d => a0.tmps.getD d undef) = outs.map (look L))
  (hn : n < ops.size)
  (hstep : ∀ T, zA T L → ∀ W, Below w0.heap.size w0 W ∨ Below w0.heap.size w1 W → AllO (OpT P ops T N W) (ops.toList.eraseIdx n))
  (heff : ∀ T, zA T L → ∀ W, Below w0.heap.size w0 W → ∀ o, ops[n]? = some o → EffT P w0.heap.size w1 T N W o)
  (hdone : ∀ w, Below w0.heap.size w1 w → Q .normal (putT (valT (look L) N) ops.toList a0) w) : (Code.region id ops true).wp P Q a0 w0 := by
 rw [κb, κb] at hok;obtain ⟨⟨hok, hT⟩, hnd⟩ := hok;have hL := jR hnd;obtain ⟨T, hTT⟩ : ∃ T, look L = T := ⟨_, rfl⟩;rw [hTT] at hdone hout hL hT;have hout' : ∀ d ∈ outs, a0.tmps.getD d undef = T d := fun d hd => by
  obtain ⟨n, hn⟩ := List.mem_iff_getElem?.1 hd;have := congrArg (·[n]?) hout;simp only [List.getElem?_map, hn, Option.map_some] at this;injection this
 refine uQ (fun _ j v _ => ∀ o, ops[j]? = some o → WantT T N o v) (fun done W => (done n → Below w0.heap.size w1 W) ∧ (¬ done n → Below w0.heap.size w0 W)) hm hok ⟨fun h => h.elim, fun _ => (Below.refl _ _).drew⟩ ?_ fun done vs w hall hw hF => ?_
 ·intro i o ho done a w hni hcl hI hdep hrest;have hlt : i < ops.size := (κi ho).1;unfold okT at hT;have hTi := List.all_eq_true.1 hT i (List.mem_range.2 hlt);rw [ho] at hTi;have hd1 : ∀ d, N.all (fun p => p.1 != d) = true → (∃ e ∈ o.after, Region.binds .any e = true ∧ ∃ o', ops[e.on]? = some o' ∧ o'.dst = some d) → a.tmps.getD d undef = T d := by
   rintro d hN ⟨e, he, hb, o', ho', hd⟩;have := ((hdep e he hb).2 o' ho').1 d hd;rw [this o' ho' d hd, gJ hN]
  have hev : vR ops outs N i o = true → execOp a.eval o = execOp (EvT T) o := by
   intro hrd;unfold vR at hrd;rw [κb] at hrd;obtain ⟨hsel, hrd⟩ := hrd;refine execOp_congr o (fun cs b h => by rw [h] at hsel; cases hsel) fun x hx => ?_
   rw [Array.all_eq_true] at hrd;obtain ⟨k, hk, hxk⟩ := Array.mem_iff_getElem.1 hx;have := hrd k hk;rw [hxk] at this;cases x with
   | const v => rfl
   | global g => rfl
   | func f => rfl
   | tmp d =>
    show a.tmps.getD d undef = T d
    simp only [readB, Bool.or_eq_true, κb] at this;rcases this with ⟨h1, h2⟩ | ⟨h1, h2⟩
    ·rw [hrest d (vN h2 hni hcl)];exact hout' d (by simpa using h1)
    ·refine hd1 d h1 ?_;unfold fromB at h2;rw [Array.any_eq_true] at h2;obtain ⟨k, hk, h3⟩ := h2;rw [κb] at h3;obtain ⟨h3, h4⟩ := h3;cases he : ops[(o.after[k]).on]? with
     | none => rw [he] at h4; cases h4
     | some o' => rw [he] at h4; exact ⟨_, Array.getElem_mem hk, h3, o', he, by simpa using h4⟩
  have hw' : ∀ v, WantT T N o v → ∀ o', ops[i]? = some o' → WantT T N o' v := fun v hv o' ho' => by rw [ho] at ho'; injection ho' with ho'; exact ho' ▸ hv
  by_cases hin : i = n
  ·subst hin;obtain ⟨hg, heff⟩ := heff T hL w (hI.2 hni) o ho;simp only [hg] at hTi;replace hev := hev hTi;have hI' : ∀ W', Below w0.heap.size w1 W' → (more done i i → Below w0.heap.size w1 W') ∧ (¬ more done i i → Below w0.heap.size w0 W') := fun W' h => ⟨fun _ => h, fun h' => absurd (.inl rfl) h'⟩
   refine ⟨fun _ K Q hK => ?_, fun hw => by simp [Region.wanted, hg] at hw⟩;rcases heff with ⟨u, W', hrun, hu, hb⟩ | ⟨W', hrun, hd, hb⟩ | ⟨f, args, hrun, hc⟩
   ·exact qU (by rw [hev]; exact hrun) (hK _ _ (hI' _ hb) (hw' _ hu) fun _ _ _ _ h => h)
   ·refine jY (by rw [hev]; exact hrun) (hK _ _ (hI' _ hb) (fun o' ho' d hd' => ?_) fun _ _ _ _ h => h);rw [ho] at ho';injection ho' with ho'
    subst ho';rw [hd] at hd';cases hd'
   ·refine zV (R := fun v w' => WantT T N o v ∧ Below w0.heap.size w1 w') (by rw [hev]; exact hrun) (hc.mono fun e w' ⟨u, he, hu, hb⟩ => ⟨_, he, hu, hb⟩) ?_;rintro v w' ⟨hv, hb⟩;exact hK _ _ (hI' _ hb) (hw' _ hv) fun _ _ _ _ h => h
  have hJ : Below w0.heap.size w0 w ∨ Below w0.heap.size w1 w := (Classical.em (done n)).elim (fun h => .inr (hI.1 h)) fun h => .inl (hI.2 h)
  have hO : OpT P ops T N w o := by
   rcases Nat.lt_or_ge i n with h | h
   ·exact (hstep T hL w hJ).at (i := i) (by rw [List.getElem?_eraseIdx, if_pos h]; simpa using ho)
   ·obtain ⟨k, rfl⟩ : ∃ k, i = k + 1 := ⟨i - 1, by omega⟩;exact (hstep T hL w hJ).at (i := k) (by rw [List.getElem?_eraseIdx, if_neg (by omega)]; simpa using ho)
  have hsz : w0.heap.size ≤ w.heap.size := hJ.elim (fun h => h.size) fun h => Nat.le_trans hle h.size
  have hmore : more done i n ↔ done n := ⟨fun h => h.elim (fun h => absurd h.symm hin) (fun h => h), .inr⟩;have hId : ∀ W', Below w.heap.size w W' → (more done i n → Below w0.heap.size w1 W') ∧ (¬ more done i n → Below w0.heap.size w0 W') := fun W' h =>
   ⟨fun h' => (hI.1 (hmore.1 h')).trans (h.mono hsz), fun h' => (hI.2 fun h => h' (hmore.2 h)).trans (h.mono hsz)⟩
  have key : vR ops outs N i o = true → RunT P T N w o → ∀ (K : Act → World → Prop) (Q : Exit → Act → World → Prop), (∀ v w', Below w.heap.size w w' → (∀ o', ops[i]? = some o' → WantT T N o' v) → K (a.put o.dst v) w') → o.wp P a w K Q := by
   intro hrd hR K Q hK;replace hev := hev hrd;rcases hR with ⟨u, hrun, hu⟩ | ⟨f, args, hrun, hc⟩
   ·exact qU (by rw [hev]; exact hrun) (hK _ _ (Below.refl _ _) (hw' _ hu))
   ·refine zV (R := fun v w' => WantT T N o v ∧ Below w.heap.size w w') (by rw [hev]; exact hrun) (hc.mono fun e w' ⟨u, he, hu, hb⟩ => ⟨_, he, hu, hb⟩) ?_;rintro v w' ⟨hv, hb⟩;exact hK _ _ hb (hw' _ hv)
  unfold OpT at hO;cases hg : o.guard with
  | none =>
   rw [hg] at hO;simp only [hg] at hTi;refine ⟨fun _ K Q hK => key hTi hO K Q fun v w' h1 h2 => hK v w' (hId _ h1) h2 fun _ _ _ _ h => h, fun hw => ?_⟩;simp [Region.wanted, hg] at hw
  | some jw =>
   obtain ⟨j, want⟩ := jw;rw [hg] at hO;simp only [hg] at hTi;dsimp only at hO;cases hj : ops[j]? with
   | none => rw [hj] at hTi; cases hTi
   | some o' =>
    rw [hj] at hTi;dsimp only at hTi;cases hd : o'.dst with
    | none => rw [hd] at hTi; cases hTi
    | some g =>
     rw [hd] at hTi;dsimp only at hTi;rw [κb, κb, Array.any_eq_true, Bool.or_eq_true] at hTi;obtain ⟨⟨hN, k, hk, h3⟩, hsk⟩ := hTi;rw [κb] at h3;have hjk : (o.after[k]).on = j := by simpa using h3.1
     obtain ⟨b, hb, hO1, hO2⟩ := hO o' g hj hd;have hval : a.tmps.getD g undef = .bool b := (hd1 g hN ⟨_, Array.getElem_mem hk, h3.2, o', by rw [hjk]; exact hj, hd⟩).trans hb;have hwd := xX hg hj hd hval;refine ⟨fun hw K Q hK => ?_, fun hw => ⟨hId _ (Below.refl _ _), fun o'' ho'' => ?_, fun _ _ _ h => h⟩⟩
     ·have hbw : b = want := by rw [hwd] at hw; simpa using hw
      rcases hsk with hsk | hrd
      ·have := hb.symm.trans (rE hsk);injection this with this
       rw [hbw] at this;cases want <;> cases this
      ·exact key hrd (hO1 hbw) K Q fun v w' h1 h2 => hK v w' (hId _ h1) h2 fun _ _ _ _ h => h
     ·rw [ho] at ho'';injection ho'' with ho''
      subst ho'';exact hO2 (by rw [hwd] at hw; simpa using hw)
 ·have hpe := gV (valT T N) vs ops.toList 0 a0 (fun j o hj d hd => by
   rw [Nat.zero_add];have hjl := (List.getElem?_eq_some_iff.1 hj).1;exact hF j (by simpa using hjl) o (by simpa using hj) d hd)
  rw [hpe];exact hdone w (hw.1 (hall n hn))
end
theorem tH {a w : World} {b : Nat} (h : a.grownBy w (some b)) (o : Obj) : a.grownBy (w.alloc o) (some b) :=
 ⟨h.os, h.tape, h.output, by have := h.size; simp; omega, fun k hk hn => (Below.heap_alloc w o k (νl hk h.size)).trans (h.block k hk hn)⟩
theorem kM {a w : World} {b : Nat} (h : a.grownBy w (some b)) {p : Addr} (hp : p.block = b ∨ a ≤ p.block) (v : Value) : a.grownBy (w.setCell p v) (some b) :=
 ⟨h.os, h.tape, h.output, by rw [zN]; exact h.size, fun k hk hn => (Below.heap_setCell w p v k (by rcases hp with rfl | hp; exact fun e => hn (by rw [e]); omega)).trans (h.block k hk hn)⟩
theorem dJ {w w' : World} {b : Nat} (h : w.grownBy w' (some b)) {p : Addr} (hp : p.block < w) (hn : p.block ≠ b) : w'.cell? p = w.cell? p :=
 World.cell?_of_block (h.block _ hp (fun e => hn (by injection e)))
def WrdN (w : World) (g : Nat) (A : Option Addr) (xs : List Int) : Prop := ∃ b off, A = some ⟨b, off, none⟩ ∧ b < w ∧ b ≠ g ∧ ∀ i, i < xs.length → w.cell? ⟨b, off + i, none⟩ = some (.int .u32 (xs.getD i 0))
theorem WrdN.grown {w w' : World} {g : Nat} {A : Option Addr} {xs : List Int} (h : WrdN w g A xs) (hg : w.grownBy w' (some g)) : WrdN w' g A xs := by
 obtain ⟨b, off, rfl, hb, hn, hc⟩ := h;exact ⟨b, off, rfl, νl hb hg.size, hn, fun i hi => (dJ hg hb hn).trans (hc i hi)⟩
theorem WrdN.wrd {w : World} {g : Nat} {A : Option Addr} {xs : List Int} (h : WrdN w g A xs) : WrdR w w A xs := fun _ => by
 obtain ⟨b, off, rfl, hb, hn, hc⟩ := h;exact ⟨b, off, rfl, hb, hc⟩
theorem gB {R ys : List Int} {k i : Nat} (hi : k + i < R.length) (hy : ys.length = i) (z : Int) : (R.take k ++ ys ++ R.drop (k + i)).set (k + i) z = R.take k ++ (ys ++ [z]) ++ R.drop (k + i + 1) := by
 rw [List.set_append_right _ _ (by rw [κa, κk]; omega)];rw [κa, κk, Nat.min_eq_left (by omega), hy, Nat.sub_self, List.drop_eq_getElem_cons hi, σo];simp only [κq, List.singleton_append]
theorem nG {R ys : List Int} {k i : Nat} (hi : k + i < R.length) (hy : ys.length = i) : (R.take k ++ ys ++ R.drop (k + i)).getD (k + i) 0 = R.getD (k + i) 0 := by
 rw [κd, List.getElem?_append_right (by rw [κa, κk]; omega), κa, κk, Nat.min_eq_left (by omega), hy, Nat.sub_self, List.getElem?_drop, κz, κd]
theorem iK (base g k c cp : Nat) (R vs : List Int) (D : Option Addr) (d : Nat) (f : Int) (w : World) (hr : w.ownsRow base 192 1 (.slice (some ⟨g, 0, none⟩) R.length cp) R.length (R.map wV)) (hw : Words R) (hv : WrdN w g D vs) (hwv : Words vs) (hk : k + vs.length + 1 ≤ R.length) (hR : R.length ≤ 1000000)
  (hf : 0 ≤ f ∧ f ≤ 4294967296) :
  Calls Tryz.prog 239 #[.slice (some ⟨g, k, none⟩) (vs.length + 1) c, .slice D vs.length d, .int .u64 f] w fun e w' => ∃ ys b, e = .returned (.bool (b != 0)) ∧ (b = 0 ∨ b = 1) ∧ ys.length = vs.length + 1 ∧ Words ys ∧
   wv ys + f * wv vs = wv ((R.drop k).take (vs.length + 1)) + 4294967296 ^ (vs.length + 1) * b ∧ w'.ownsRow base 192 1 (.slice (some ⟨g, 0, none⟩) R.length cp) R.length ((R.take k ++ ys ++ R.drop (k + vs.length + 1)).map wV) ∧ w.grownBy w' (some g) := by
 obtain ⟨us, hus⟩ : ∃ us, (R.drop k).take (vs.length + 1) = us := ⟨_, rfl⟩;have hul : us.length = vs.length + 1 := by rw [← hus, κk, List.length_drop]; omega
 have huw : Words us := by rw [← hus]; exact (hw.drop k).take _
 have hug : ∀ i, i < us.length → us.getD i 0 = R.getD (k + i) 0 := fun i hi => by
  rw [← hus, κd, List.getElem?_take_of_lt (by omega), List.getElem?_drop, κd]
 rw [hus];have hgl : g < w := (hr.lt g rfl).2;have H := η hr;have HV := η hv;have HWV := η hwv;have HUW := η huw;have HF := η hf;have HUG := η hug;have K := η pS;have HK := η hk;rw [← hul];have HUL := η hul;clear hr hv hwv huw hf hug hw hus;obtain ⟨nv, hnv⟩ : ∃ nv, vs.length = nv := ⟨_, rfl⟩;obtain ⟨nu, hnu⟩ : ∃ nu, us.length = nu := ⟨_, rfl⟩;rw [hnv] at hk hul ⊢;rw [hnu] at hul ⊢;have e4 : k + nv + 1 = k + nu := by omega
 rw [e4];have hk : k + nu ≤ R.length := by omega
 have HUE := η hul;clear hul;have HNV := η hnv;have HNU := η hnu;clear hnv hnu e4;go_enter Tryz.func239, Tryz.ntmps239;go_wp2_with fail;refine (vQ 0 _).mono ?_;rintro e w1 ⟨rfl, rfl⟩;unfold carV;go_wp2_with fail;go_loopg [7, 9, 10, 11, 15] nu (fun gl s7 s9 s10 s11 s15 wr => ∃ (i : Nat) (ys : List Int) (cr b : Int), i + gl = nu ∧ s7 = .int .u64 b ∧ s15 = .int .i64 (i : Int) ∧ SubI us vs f i ys cr b ∧ wr.ownsRow base 192 1 (.slice (some ⟨g, 0, none⟩) R.length cp) R.length ((R.take k ++ ys ++ R.drop (k + i)).map wV) ∧
  wr.cell? ⟨w, 0, none⟩ = some (.int .u64 cr) ∧ wr.frozen? ⟨w, 0, none⟩ = false ∧ w < wr.heap.size ∧ w.grownBy wr (some g))
 case atStart => exact ⟨0, [], 0, 0, by omega, rfl, rfl, SubI.zero _ _ _, by rw [κp, κz, List.take_append_drop]; exact H.out.alloc _, by simp, by simp, by simp, tH (World.grownBy.refl w (some g)) _⟩
 case round =>
  obtain ⟨i, ys, cr, b, hig, rfl, rfl, hS, hrow, hbx, hfx, hlt, hg⟩ := hrel;have HS := η hS;have HR := η hrow;have HG := η hg;have HIG := η hig;clear hS hrow hg;cases gk with
  | zero =>
   obtain rfl : i = nu := by omega
   clear hig;have hS := HS.out;rw [← HNU.out] at hS;have hfin := hS.fin (by rw [HNU.out, HNV.out]; exact HUE.out);have HFN := η hfin;have HB01 := η hS.b01;clear hS hfin;go_wp2_with fail;go_ret;refine ⟨ys, b, rfl, HB01.out, by rw [HFN.out.2, HNU.out], HS.out.ok, by rw [← HNU.out]; exact HFN.out.1, HR.out, HG.out⟩
  | succ gl =>
   have hilt : i < nu := by omega
   have w3 : (i : Int) < (nu : Int) := by omega
   obtain ⟨f0, f1⟩ := cellW HR.out (k := k + i) (by omega);rw [nG (by omega) HS.out.len, ← HUG.out i (by rw [HNU.out]; exact hilt)] at f0;obtain ⟨x, hx⟩ : ∃ x, us.getD i 0 = x := ⟨_, rfl⟩;obtain ⟨y, hy⟩ : ∃ y, vs.getD i 0 = y := ⟨_, rfl⟩;rw [hx] at f0;have hxb := HUW.out.getD i;rw [hx] at hxb;have hyb := HWV.out.getD i;rw [hy] at hyb;have hcb : 0 ≤ cr ∧ cr < 4294967296 := ⟨HS.out.c0, HS.out.c1⟩;have hm := gW hyb HF.out hcb;have HM := η hm;obtain ⟨t, ht⟩ : ∃ t, (y * f + cr) % 4294967296 = t := ⟨_, rfl⟩;have hbb : 0 ≤ b ∧ b ≤ 1 := by rcases HS.out.b01 with h | h <;> omega
   have htb : 0 ≤ t ∧ t < 4294967296 := by omega
   have HST := η (HS.out.step HUW.out HWV.out HF.out x y t hx hy ht);obtain ⟨d1, hd1⟩ : ∃ d1, (x - t) % 18446744073709551616 = d1 := ⟨_, rfl⟩;obtain ⟨d2, hd2⟩ : ∃ d2, (d1 - b) % 18446744073709551616 = d2 := ⟨_, rfl⟩;have p1 : IntKind.u64.wrap x = x := κu _ (by omega);have p2 : IntKind.u64.wrap y = y := κu _ (by omega);have p3 : IntKind.u64.wrap (y * f) = y * f := κu _ (by omega);have p4 : IntKind.u64.wrap t = t := κu _ (by omega);have p5 : IntKind.u64.wrap (x - t) = d1 := by rw [← hd1]; rfl
   have p6 : IntKind.u64.wrap (d1 - b) = d2 := by rw [← hd2]; rfl
   have p7 : IntKind.u32.wrap d2 = (x - t - b) % 4294967296 := by
    show d2 % 4294967296 = _
    omega
   obtain ⟨bn, hbn'⟩ : ∃ bn : Int, (if x - t - b < 0 then (1 : Int) else 0) = bn := ⟨_, rfl⟩;have p8 : d2 / 9223372036854775808 = bn := by rw [← hbn']; split <;> omega
   rw [hbn'] at HST;have HP := η (show (x - t - b) % 4294967296 < 4294967296 ∧ 0 ≤ (x - t - b) % 4294967296 by omega);have HTV := η ht;have HYE : Hid (vs.getD i 0 = y) := hy;clear hx hy hbn' hd1 hd2 hm hxb hyb hcb hbb htb ht;have hne : g ≠ w := by omega
   have hgw : g < wr := by omega
   obtain ⟨b2, off2, hD, hb2, hbn, hcc⟩ := HV.out;subst hD;rcases Nat.lt_or_ge i nv with hi | hi
   ·have f2 := (dJ HG.out (p := ⟨b2, off2 + i, none⟩) hb2 hbn).trans (hcc i (by rw [HNV.out]; exact hi));rw [show vs.getD i 0 = y from HYE.out] at f2;have e1 : decide (i < nv) = true := κt hi;have w4 : (i : Int) < (nv : Int) := by omega
    clear hi hcc;go_wp2_with fail;refine dT (w0 := wr) (wr.setCell ⟨w, 0, none⟩ (.int .u64 (((y * f) + cr) / 4294967296))) 7 [(0, .slice (some ⟨g, k, none⟩) nu c), (9, .int .i64 (i : Int)), (8, .func (.func 232) #[] #[.pointer (some ⟨w, 0, none⟩)]), (10, .int .u64 (y * f)), (7, .int .u64 b), (29, .slice (some ⟨g, k, none⟩) nu c), (30, .int .i64 (i : Int)), (31, .pointer (some ⟨g, k + i, none⟩)), (32, .int .u32 x), (33, .int .u64 x), (34, .func (.func 232) #[] #[.pointer (some ⟨w, 0, none⟩)]), (35, .int .u64 (y * f)), (36, .int .u32 t), (37, .int .u64 t), (38, .int .u64 d1), (39, .int .u64 b), (40, .int .u64 d2), (11, .int .u64 d2)] [] [0, 9, 8, 10, 7] (by kernel_rfl) (by rw [zN]; exact νr _) (by kernel_rfl) rfl (by decide) ?_ ?_ ?_
    ·intro T hT W hJ;simp only [zA, and_true] at hT;have fx : W.cell? ⟨g, k + i, none⟩ = some (.int .u32 x) := hJ.elim (fun h => (h.cell (p := ⟨g, k + i, none⟩) hgw).trans f0) fun h => (h.cell (p := ⟨g, k + i, none⟩) hgw).trans (by rw [κo _ _ _ _ (by simp; try omega)]; exact f0)
     repeat' first | exact AllO.nil | apply AllO.cons
     all_goals (refine opT_r (mF ?_); simp [go_sem, EvT, hT, fx, p1, p4, p5, p6, w3, valT])
    ·intro T hT W hb o ho;cases ho;simp only [zA, and_true] at hT;refine wY 232 #[.int .u64 (y * f), .pointer (some ⟨w, 0, none⟩)] (by simp [go_sem, EvT, hT]) ?_;refine (K.out w (y * f) cr W ⟨HM.out.1, HS.out.c0, HM.out.2.1⟩ ((hb.cell (p := ⟨w, 0, none⟩) hlt).trans hbx) ((hb.frozen (p := ⟨w, 0, none⟩) hlt).trans hfx)).mono ?_;rintro e w' ⟨rfl, rfl⟩;exact ⟨by simp only [valT, hT]; rw [HTV.out], uL hb _ _⟩
    intro wx hbw;simp (decide := true) only [putT, valT, look, Act.put, σi, σo, σs, Nat.reduceAdd, if_true, if_false];have hsz := hbw.size;rw [zN] at hsz;have q0 : wx.cell? ⟨g, k + i, none⟩ = some (.int .u32 x) := (hbw.cell (p := ⟨g, k + i, none⟩) hgw).trans (by rw [κo _ _ _ _ (by simp; try omega)]; exact f0);have q1 : wx.frozen? ⟨g, k + i, none⟩ = false := (hbw.frozen (p := ⟨g, k + i, none⟩) hgw).trans (by rw [World.frozen?_setCell]; exact f1);have q2 := (hbw.cell (p := ⟨w, 0, none⟩) hlt).trans (World.cell?_setCell_same _ _ _ hbx);have q3 : wx.frozen? ⟨w, 0, none⟩ = false := (hbw.frozen (p := ⟨w, 0, none⟩) hlt).trans (by rw [World.frozen?_setCell]; exact hfx);have HR2 : Hid (wx.ownsRow base 192 1 (.slice (some ⟨g, 0, none⟩) R.length cp) R.length ((R.take k ++ ys ++ R.drop (k + i)).map wV)) := by
     show World.ownsRow _ _ _ _ _ _ _
     exact qE (zL HR.out (p := ⟨w, 0, none⟩) (by rw [Value.ownBlock]; simp; try omega) _) (by rw [zN]; exact hbw)
    have HG2 : Hid (w.grownBy wx (some g)) := by
     show World.grownBy _ _ _
     exact zB (kM HG.out (p := ⟨w, 0, none⟩) (.inr (νr _)) _) (zG (by rw [zN]; exact hbw))
    have hltx : w < wx.heap.size := by omega
    have hgx : g < wx := by omega
    clear hbw hsz HR HG f0 f1 hbx hfx;go_wp2_with fail;go_roundg gl
    case measure => omega
    case rel =>
     have hst := (HR2.out.stored (k + i) (.int .u32 ((x - t - b) % 4294967296))).1;rw [xH, gB (by omega) HS.out.len] at hst;refine ⟨i + 1, ys ++ [(x - t - b) % 4294967296], ((y * f) + cr) / 4294967296, bn, by omega, rfl, by go_num, HST.out, hst, ?_, ?_, by rw [zN]; exact hltx, kM HG2.out (.inl rfl) _⟩
     ·rw [κo _ _ _ _ (by simp; try omega)]; exact q2
     ·rw [World.frozen?_setCell]; exact q3
   ·have e1 : decide (i < nv) = false := κf (by omega);have hy0 : y = 0 := by rw [← HYE.out, κd, List.getElem?_eq_none (by rw [HNV.out]; exact hi)]; rfl
    subst hy0;rw [Int.zero_mul] at HM HST HTV p3;clear hi hcc;go_wp2_with fail;refine dT (w0 := wr) (wr.setCell ⟨w, 0, none⟩ (.int .u64 ((0 + cr) / 4294967296))) 7 [(0, .slice (some ⟨g, k, none⟩) nu c), (9, .int .i64 (i : Int)), (8, .func (.func 232) #[] #[.pointer (some ⟨w, 0, none⟩)]), (10, .int .u64 0), (7, .int .u64 b), (29, .slice (some ⟨g, k, none⟩) nu c), (30, .int .i64 (i : Int)), (31, .pointer (some ⟨g, k + i, none⟩)), (32, .int .u32 x), (33, .int .u64 x), (34, .func (.func 232) #[] #[.pointer (some ⟨w, 0, none⟩)]), (35, .int .u64 0), (36, .int .u32 t), (37, .int .u64 t), (38, .int .u64 d1), (39, .int .u64 b), (40, .int .u64 d2), (11, .int .u64 d2)] [] [0, 9, 8, 10, 7] (by kernel_rfl) (by rw [zN]; exact νr _) (by kernel_rfl) rfl (by decide) ?_ ?_ ?_
    ·intro T hT W hJ;simp only [zA, and_true] at hT;have fx : W.cell? ⟨g, k + i, none⟩ = some (.int .u32 x) := hJ.elim (fun h => (h.cell (p := ⟨g, k + i, none⟩) hgw).trans f0) fun h => (h.cell (p := ⟨g, k + i, none⟩) hgw).trans (by rw [κo _ _ _ _ (by simp; try omega)]; exact f0)
     repeat' first | exact AllO.nil | apply AllO.cons
     all_goals (refine opT_r (mF ?_); simp [go_sem, EvT, hT, fx, p1, p4, p5, p6, w3, valT])
    ·intro T hT W hb o ho;cases ho;simp only [zA, and_true] at hT;refine wY 232 #[.int .u64 0, .pointer (some ⟨w, 0, none⟩)] (by simp [go_sem, EvT, hT]) ?_;refine (K.out w 0 cr W ⟨Int.le_refl _, HS.out.c0, by have := HS.out.c1; omega⟩ ((hb.cell (p := ⟨w, 0, none⟩) hlt).trans hbx) ((hb.frozen (p := ⟨w, 0, none⟩) hlt).trans hfx)).mono ?_;rintro e w' ⟨rfl, rfl⟩;exact ⟨by simp only [valT, hT]; rw [HTV.out], uL hb _ _⟩
    intro wx hbw;simp (decide := true) only [putT, valT, look, Act.put, σi, σo, σs, Nat.reduceAdd, if_true, if_false];have hsz := hbw.size;rw [zN] at hsz;have q0 : wx.cell? ⟨g, k + i, none⟩ = some (.int .u32 x) := (hbw.cell (p := ⟨g, k + i, none⟩) hgw).trans (by rw [κo _ _ _ _ (by simp; try omega)]; exact f0);have q1 : wx.frozen? ⟨g, k + i, none⟩ = false := (hbw.frozen (p := ⟨g, k + i, none⟩) hgw).trans (by rw [World.frozen?_setCell]; exact f1);have q2 := (hbw.cell (p := ⟨w, 0, none⟩) hlt).trans (World.cell?_setCell_same _ _ _ hbx);have q3 : wx.frozen? ⟨w, 0, none⟩ = false := (hbw.frozen (p := ⟨w, 0, none⟩) hlt).trans (by rw [World.frozen?_setCell]; exact hfx);have HR2 : Hid (wx.ownsRow base 192 1 (.slice (some ⟨g, 0, none⟩) R.length cp) R.length ((R.take k ++ ys ++ R.drop (k + i)).map wV)) := by
     show World.ownsRow _ _ _ _ _ _ _
     exact qE (zL HR.out (p := ⟨w, 0, none⟩) (by rw [Value.ownBlock]; simp; try omega) _) (by rw [zN]; exact hbw)
    have HG2 : Hid (w.grownBy wx (some g)) := by
     show World.grownBy _ _ _
     exact zB (kM HG.out (p := ⟨w, 0, none⟩) (.inr (νr _)) _) (zG (by rw [zN]; exact hbw))
    have hltx : w < wx.heap.size := by omega
    have hgx : g < wx := by omega
    clear hbw hsz HR HG f0 f1 hbx hfx;go_wp2_with fail;go_roundg gl
    case measure => omega
    case rel =>
     have hst := (HR2.out.stored (k + i) (.int .u32 ((x - t - b) % 4294967296))).1;rw [xH, gB (by omega) HS.out.len] at hst;refine ⟨i + 1, ys ++ [(x - t - b) % 4294967296], (0 + cr) / 4294967296, bn, by omega, rfl, by go_num, HST.out, hst, ?_, ?_, by rw [zN]; exact hltx, kM HG2.out (.inl rfl) _⟩
     ·rw [κo _ _ _ _ (by simp; try omega)]; exact q2
     ·rw [World.frozen?_setCell]; exact q3
end Go.Proofs.YtkfhpefmmhljmaaGreatDoor
