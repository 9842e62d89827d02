/- Texts in one: FmK, FmL. -/
import Derived.Test.YtkfhpefmmhljmaaGreatDoorF38
import Derived.Test.YtkfhpefmmhljmaaGreatDoorF29
set_option linter.unusedVariables false
set_option linter.unusedSimpArgs false
set_option maxHeartbeats 16000000
set_option maxRecDepth 100000
namespace Go.Proofs.YtkfhpefmmhljmaaGreatDoor
open Go.RowKit
theorem eR (u : Un) (n : Int) (A : Option Addr) (c : Nat) (w : World) (hr : RowR StE 2 w w A u.steps) (hn : n ≤ 6) (hk : unitE n u = 0) :
  Calls Tryz.prog 22 #[.agg #[.int .i64 u.bus, .int .i64 u.min, .slice A u.steps.length c, .int .i64 u.up, .int .i64 u.down, .int .i64 u.start, .int .i64 u.idle, .int .i64 u.spin, .int .i64 u.on]] w (TxtE w (fmtT (unitT u))) := by
 obtain ⟨h1, h2, hl, h4⟩ := vO hn hk;have HX : Hid (Box (w.alloc (.cells #[.int .i64 u.bus, .int .i64 u.min, .slice A u.steps.length c, .int .i64 u.up, .int .i64 u.down, .int .i64 u.start, .int .i64 u.idle, .int .i64 u.spin, .int .i64 u.on] 62)) w [.int .i64 u.bus, .int .i64 u.min, .slice A u.steps.length c, .int .i64 u.up, .int .i64 u.down, .int .i64 u.start, .int .i64 u.idle, .int .i64 u.spin, .int .i64 u.on]) := Box.new w #[.int .i64 u.bus, .int .i64 u.min, .slice A u.steps.length c, .int .i64 u.up, .int .i64 u.down, .int .i64 u.start, .int .i64 u.idle, .int .i64 u.spin, .int .i64 u.on] _;have HB : Hid (Below w w (w.alloc (.cells #[.int .i64 u.bus, .int .i64 u.min, .slice A u.steps.length c, .int .i64 u.up, .int .i64 u.down, .int .i64 u.start, .int .i64 u.idle, .int .i64 u.spin, .int .i64 u.on] 62))) := βA _;have KC := η (fB u A c 6 (w.alloc (.cells #[.int .i64 u.bus, .int .i64 u.min, .slice A u.steps.length c, .int .i64 u.up, .int .i64 u.down, .int .i64 u.start, .int .i64 u.idle, .int .i64 u.spin, .int .i64 u.on] 62)) (hr.upto StE.keep HB.out));unfold ErrE at KC;rw [h1] at KC;have HR := η hr;have HSM := η (mZ (u := u) h2 h4);have HN := η h2;have HST := η h4;clear hr h1 h2 h4 hk;go_enter Tryz.func22, Tryz.ntmps22;go_wp2_with fail;refine KC.out.mono ?_;rintro e w1 ⟨rfl, hb1⟩;have hz1 : w < w1.heap.size := νl (by simp) hb1.size;have HX1 := η (HX.out.up hb1 (by simp));have HB1 := η (HB.out.trans (hb1.mono (by simp)));clear hb1 HX HB KC;obtain ⟨q0, s0, q1, s1, q2, s2, q3, s3, q4, s4, q5, s5, q6, s6, q7, s7, q8, s8⟩ := sqX9 HX1.out;have KN := η (kB (some ⟨w1, 0, none⟩) 8 (zW u) (w1.alloc (.cells #[.int .i64 u.bus, .int .i64 u.min, .int .i64 u.up, .int .i64 u.down, .int .i64 u.start, .int .i64 u.idle, .int .i64 u.spin, .int .i64 u.on] 2)) (RowR.lit64 w1 _ (zW u) _ rfl) (by simp [zW]) (fun x hx => by have := HN.out x hx; unfold small at this; omega));rw [show (zW u).length = 8 from rfl] at KN;go_wp2_with fail;refine KN.out.mono ?_;rintro e w2 ⟨v, rfl, hrow, hb2⟩;have hz2 : w < w2.heap.size := νl (by simp; omega) hb2.size;have HX2 := η ((HX1.out.alloc hz1 (.cells #[.int .i64 u.bus, .int .i64 u.min, .int .i64 u.up, .int .i64 u.down, .int .i64 u.start, .int .i64 u.idle, .int .i64 u.spin, .int .i64 u.on] 2)).up hb2 (by simp; omega));have HB2 := η ((HB1.out.alloc (κl hz1) (.cells #[.int .i64 u.bus, .int .i64 u.min, .int .i64 u.up, .int .i64 u.down, .int .i64 u.start, .int .i64 u.idle, .int .i64 u.spin, .int .i64 u.on] 2)).trans (hb2.mono (by simp; omega)));have KF := η (gB [117, 110, 105, 116] w v (zW u) A c u.steps w2 (hrow.mono TkO.own (by simp; omega)) (κl hz2) (HR.out.keep StE.keep (fun p hp => HB2.out.cell hp) (νr _)) (by simp [zW]) hl HSM.out HST.out);obtain ⟨A2, c2, rfl⟩ := kN hrow;clear hrow hb2 HX1 HB1 KN q0 q1 q2 q3 q4 q5 q6 q7 q8 s0 s1 s2 s3 s4 s5 s6 s7 s8;obtain ⟨q0, s0, q1, s1, q2, s2, q3, s3, q4, s4⟩ := sqX5 HX2.out;have q5 := HX2.out.c 5 _ rfl
 have s5 := HX2.out.f 5 (by simp);have q6 := HX2.out.c 6 _ rfl;have s6 := HX2.out.f 6 (by simp);have q7 := HX2.out.c 7 _ rfl;have s7 := HX2.out.f 7 (by simp);have q8 := HX2.out.c 8 _ rfl;have s8 := HX2.out.f 8 (by simp);go_wp2_with fail;refine KF.out.mono ?_;rintro e w3 ⟨rfl, hb3⟩;have HB3 := η (HB2.out.trans hb3);clear hb3 HB2 HX2 KF q0 q1 q2 q3 q4 q5 q6 q7 q8 s0 s1 s2 s3 s4 s5 s6 s7 s8;go_wp2_with fail;go_ret2;exact ⟨rfl, HB3.out⟩
theorem sZ (b : Bd) (n : Int) (A : Option Addr) (c : Nat) (w : World) (hr : RowR StE 2 w w A b.steps) (hn : n ≤ 6) (hk : bidE n b = 0) :
  Calls Tryz.prog 69 #[.agg #[.int .i64 b.bus, .slice A b.steps.length c]] w (TxtE w (fmtT (bidT b))) := by
 obtain ⟨h1, h2, hl, h4⟩ := xY hn hk;have HX : Hid (Box (w.alloc (.cells #[.int .i64 b.bus, .slice A b.steps.length c] 133)) w [.int .i64 b.bus, .slice A b.steps.length c]) := Box.new w #[.int .i64 b.bus, .slice A b.steps.length c] _;have HB : Hid (Below w w (w.alloc (.cells #[.int .i64 b.bus, .slice A b.steps.length c] 133))) := βA _;have KC := η (yT b A c (w.alloc (.cells #[.int .i64 b.bus, .slice A b.steps.length c] 133)) (hr.upto StE.keep HB.out));unfold ErrE at KC;rw [h1] at KC;have HR := η hr;have HSM := η (mV (b := b) h2 h4);have HN := η h2;have HST := η h4;clear hr h1 h2 h4 hk;go_enter Tryz.func69, Tryz.ntmps69;go_wp2_with fail;refine KC.out.mono ?_;rintro e w1 ⟨rfl, hb1⟩;have hz1 : w < w1.heap.size := νl (by simp) hb1.size;have HX1 := η (HX.out.up hb1 (by simp));have HB1 := η (HB.out.trans (hb1.mono (by simp)));clear hb1 HX HB KC;go_wp2_with fail;refine xF (X := Nat × Value) (w0 := w1) [2, 3, 6] (fun jq => [0, 0, 1, 2, 0, 0, 3, 3, 3, 3, 3].getD jq 0) (fun jq => [0, 0, 0, 1, 2, 2, 2, 3, 3, 3, 3].getD jq 0) (fun _ x jq => (match jq with | 0 => .pointer (some ⟨w, 0, none⟩) | 1 => .int .i64 b.bus | 2 => .slice (some ⟨x.1, 0, none⟩) 1 1 | 3 => x.2 | 4 => .pointer (some ⟨w, 1, none⟩) | 5 => .slice A b.steps.length c | 6 => .tuple #[.string (bstr (fmtT (bidT b))), .int .i64 0] | 7 => .string (bstr (fmtT (bidT b))) | 8 => .int .i64 0 | 9 => .string (bstr (fmtT (bidT b))) | 10 => .int .i64 0 | _ => undef)) (fun t x W => match t with | 0 => Below w1 w1 W | 1 => ∃ W1, Below w1 w1 W1 ∧ W = W1.alloc (.cells #[.int .i64 b.bus] 2) ∧ x.1 = W1.heap.size | 2 => RowO TkO 87 6 W w1 x.2 [.nm b.bus] ∧ Below w1 w1 W | _ => Below w1 w1 W) (0, undef) (by kernel_rfl) (by kernel_rfl) (by kernel_rfl) (Below.refl _ _).drew ?_ ?_ ?_
 ·intro iq oq ho hnc aq W t x hI htl hcl hub hdep hrest hgd;have hdep := @sqD _ _ _ hdep;have hgd := @sqG _ _ _ _ hgd;rcases iq with _|_|_|_|_|_|_|_|_|_|_|iq
  ·cases ho;refine sqJ ?_;simp [go_sem, hrest 1 (by kernel_rfl)]
  ·cases ho;clear hrest;have d0 : aq.eval (.tmp 10) = .pointer (some ⟨w, 0, none⟩) := hdep ⟨0, .data⟩;clear hdep hgd;refine sqJ ?_;have ht : t = 0 := by have h1 : 0 ≤ t := hcl; have h2 : t ≤ 0 := hub; omega
   clear hcl hub;rcases ht with rfl
   ·skip
    replace hI : Below w1 w1 W := hI;have c0 := (HX1.out.up hI hz1).c 0 _ rfl;have hlz : w < W.heap.size := νl hz1 hI.size;clear hI htl;generalize aq.eval = ρ at *;simp [go_sem, d0, c0, hlz]
  ·exact absurd rfl (hnc 0 (by decide))
  ·exact absurd rfl (hnc 1 (by decide))
  ·cases ho;refine sqJ ?_;simp [go_sem, hrest 1 (by kernel_rfl)]
  ·cases ho;clear hrest;have d4 : aq.eval (.tmp 14) = .pointer (some ⟨w, 1, none⟩) := hdep ⟨4, .data⟩;clear hdep hgd;refine sqJ ?_;have ht : t = 0 ∨ t = 1 ∨ t = 2 := by have h1 : 0 ≤ t := hcl; have h2 : t ≤ 2 := hub; omega
   clear hcl hub;rcases ht with rfl | rfl | rfl
   ·skip
    replace hI : Below w1 w1 W := hI;have c1 := (HX1.out.up hI hz1).c 1 _ rfl;have hlz : w < W.heap.size := νl hz1 hI.size;clear hI htl;generalize aq.eval = ρ at *;simp [go_sem, d4, c1, hlz]
   ·skip
    obtain ⟨W1, hI1, rfl, hx1⟩ : ∃ W1, Below w1 w1 W1 ∧ W = W1.alloc (.cells #[.int .i64 b.bus] 2) ∧ x.1 = W1.heap.size := hI;have hJ : Below w1 w1 (W1.alloc (.cells #[.int .i64 b.bus] 2)) := hI1.alloc hI1.size _;generalize W1.alloc (.cells #[.int .i64 b.bus] 2) = W2 at *;have hI := hJ;have c1 := (HX1.out.up hJ hz1).c 1 _ rfl;have hlz : w < W2.heap.size := νl hz1 hJ.size;clear hI htl;generalize aq.eval = ρ at *;simp [go_sem, d4, c1, hlz]
   ·skip
    replace hI : RowO TkO 87 6 W w1 x.2 [.nm b.bus] ∧ Below w1 w1 W := hI;have c1 := (HX1.out.up hI.2 hz1).c 1 _ rfl;have hlz : w < W.heap.size := νl hz1 hI.2.size;clear hI htl;generalize aq.eval = ρ at *;simp [go_sem, d4, c1, hlz]
  ·exact absurd rfl (hnc 2 (by decide))
  ·cases ho;refine sqJ ?_;simp [go_sem, hdep ⟨6, .data⟩]
  ·cases ho;refine sqJ ?_;simp [go_sem, hdep ⟨6, .data⟩]
  ·cases ho;refine sqJ ?_;simp [go_sem, hdep ⟨7, .data⟩]
  ·cases ho;refine sqJ ?_;simp [go_sem, hdep ⟨8, .data⟩]
  ·simp at ho
 ·intro k oq hk ho aq W x hI hdep hrest;have hc := sqC aq;have hfn := sqF aq;rcases k with _ | _ | _ | k
  ·cases ho;clear hrest;have d1 : aq.eval (.tmp 11) = .int .i64 b.bus := hdep ⟨1, .data⟩ (by simp) rfl _ _ rfl rfl;clear hdep;replace hI : Below w1 w1 W := hI;refine ⟨by simp [Region.wanted], fun K Q hK => ?_⟩;refine jD (v := .slice (some ⟨W, 0, none⟩) 1 1) (w' := W.alloc (.cells #[.int .i64 b.bus] 2)) ?_ (hK _ _ (W, x.2) ⟨W, hI, rfl, rfl⟩ (fun d h => rfl) (fun j hj hc => by rcases j with _ | _ | _ | _ | _ | _ | _ | _ | _ | _ | _ | j <;> first | rfl | exact absurd hc (by decide)));clear hI hK;generalize aq.eval = ρ at *;simp [go_sem, d1]
  ·cases ho;clear hrest;have d2 : aq.eval (.tmp 12) = .slice (some ⟨x.1, 0, none⟩) 1 1 := hdep ⟨2, .data⟩ (by simp) rfl _ _ rfl rfl;clear hdep;obtain ⟨W1, hI1, hW, hx1⟩ : ∃ W1, Below w1 w1 W1 ∧ W = W1.alloc (.cells #[.int .i64 b.bus] 2) ∧ x.1 = W1.heap.size := hI;have hI := hI1;refine ⟨by simp [Region.wanted], fun K Q hK => ?_⟩;refine jJ (f := 66) (args := #[.slice (some ⟨x.1, 0, none⟩) 1 1]) (w' := W) (R := fun v w' => RowO TkO 87 6 w' w1 v [.nm b.bus] ∧ Below w1 w1 w') ?_ ((show Calls Tryz.prog 66 #[.slice (some ⟨x.1, 0, none⟩) 1 1] W (gD W [.nm b.bus]) by rw [hx1, hW]; exact kB (some ⟨W1, 0, none⟩) 1 [b.bus] (W1.alloc (.cells #[.int .i64 b.bus] 2)) (RowR.lit64 W1 _ [b.bus] _ rfl) (by simp) (fun y hy => by have := HN.out; unfold small at this; simp at hy; omega)).mono fun e w' ⟨v, he, hr', hb'⟩ => ⟨v, he, hr'.mono TkO.own (by rw [hW]; have := hI1.size; simp; omega), (show Below w1 w1 W by rw [hW]; exact hI1.alloc hI1.size _).trans (hb'.mono (by rw [hW]; have := hI1.size; simp; omega))⟩) ?_
   ·clear hI hK hI1 hW hx1;generalize aq.eval = ρ at *;simp [go_sem, d2, hfn, hfn]
   ·rintro v w' ⟨h1, h2⟩;exact hK _ _ (x.1, v) ⟨h1, h2⟩ (fun d h => rfl) (fun j hj hc => by rcases j with _ | _ | _ | _ | _ | _ | _ | _ | _ | _ | _ | j <;> first | rfl | exact absurd hc (by decide))
  ·cases ho;clear hrest;have d3 : aq.eval (.tmp 13) = x.2 := hdep ⟨3, .data⟩ (by simp) rfl _ _ rfl rfl;have d5 : aq.eval (.tmp 15) = .slice A b.steps.length c := hdep ⟨5, .data⟩ (by simp) rfl _ _ rfl rfl;clear hdep;replace hI : RowO TkO 87 6 W w1 x.2 [.nm b.bus] ∧ Below w1 w1 W := hI;refine ⟨by simp [Region.wanted], fun K Q hK => ?_⟩;refine jJ (f := 67) (args := #[.string ⟨#[98, 105, 100]⟩, x.2, .slice A b.steps.length c]) (w' := W) (R := fun v w' => v = (.tuple #[.string (bstr (fmtT (bidT b))), .int .i64 0]) ∧ (fun t x W => match t with | 0 => Below w1 w1 W | 1 => ∃ W1, Below w1 w1 W1 ∧ W = W1.alloc (.cells #[.int .i64 b.bus] 2) ∧ x.1 = W1.heap.size | 2 => RowO TkO 87 6 W w1 x.2 [.nm b.bus] ∧ Below w1 w1 W | _ => Below w1 w1 W) 3 x w') ?_ ((gB [98, 105, 100] w1 x.2 [b.bus] A c b.steps W hI.1 hI.2.size (HR.out.keep StE.keep (fun p hp => (hI.2.cell (Nat.lt_trans hp hz1)).trans (HB1.out.cell hp)) (κl hz1)) (by simp) hl HSM.out HST.out).mono fun e w' ⟨he, hb'⟩ => ⟨_, he, rfl, hI.2.trans hb'⟩) ?_
   ·clear hI hK;generalize aq.eval = ρ at *;simp [go_sem, d3, d5, hc, hfn]
   ·rintro v w' ⟨rfl, hinv⟩;exact hK _ _ x hinv (fun d h => rfl) (fun j hj hc => by rcases j with _ | _ | _ | _ | _ | _ | _ | _ | _ | _ | _ | j <;> first | rfl | exact absurd hc (by decide))
  ·exact absurd hk (by simp)
 intro x wx hI;simp only [qE, Act.put, σi, σo, σs, Nat.reduceAdd];replace hI : (fun t x W => match t with | 0 => Below w1 w1 W | 1 => ∃ W1, Below w1 w1 W1 ∧ W = W1.alloc (.cells #[.int .i64 b.bus] 2) ∧ x.1 = W1.heap.size | 2 => RowO TkO 87 6 W w1 x.2 [.nm b.bus] ∧ Below w1 w1 W | _ => Below w1 w1 W) 3 x wx := hI
 (try dsimp only at hI)
 have HB3 := η (HB1.out.trans (hI.mono (κl hz1)));clear hI;go_wp2_with fail;go_ret2;exact ⟨rfl, HB3.out⟩
def strV (x : Bytes) : Value := .string (bstr x)
theorem kU : (Tryz.prog.info? 9).map (fun i => (i.zero, i.size, i.bytes)) = some (some (.string ⟨#[]⟩), 1, 16) := by kernel_rfl
def joinS (y : Bytes) (ts : List Bytes) : Bytes := y ++ ts.flatMap (fun t => 32 :: t)
def listS (y : Bytes) (ts : List Bytes) : Bytes := 40 :: (joinS y ts ++ [41])
theorem eI (y : Bytes) (ts : List Bytes) : Lib.join (y :: ts) [32] = joinS y ts := by
 rw [Lib.join_cons, joinS, Lib.joinTail, List.flatMap_def];rfl
theorem jZ {y : Bytes} {ts : List Bytes} {m : Nat} (h : ∀ t ∈ ts, t.length ≤ m) : (joinS y ts).length ≤ y.length + ts.length * (m + 1) := by
 unfold joinS;rw [κa];have : ∀ l : List Bytes, (∀ t ∈ l, t.length ≤ m) → (l.flatMap (fun t => 32 :: t)).length ≤ l.length * (m + 1) := by
  intro l
  induction l with
  | nil => intro _; simp
  | cons x l ih =>
   intro h;have h1 := ih (fun t ht => h t (by simp [ht]));have h2 := h x (by simp);rw [List.flatMap_cons, κa, κc, κc, Nat.succ_mul];omega
 have := this ts h;omega
theorem vV (g cap : Nat) (y : Bytes) (ts : List Bytes) (n : Nat) (base : Nat) (w : World) (hn : n = ts.length + 1) (h : w.ownsRow base 9 1 (.slice (some ⟨g, 0, none⟩) n cap) n ((y :: ts).map strV)) (hl : (joinS y ts).length ≤ 1000000) (hm : ts.length ≤ 100000) :
  Calls Tryz.prog 29 #[.slice (some ⟨g, 0, none⟩) n cap, .string ⟨#[32]⟩] w fun e w' => e = .returned (.string (bstr (joinS y ts))) ∧ Below w w w' := by
 subst hn;have hmap : (((y :: ts).map bstr).map (fun x : ByteArray => x.data.toList)) = y :: ts := by
  rw [List.map_map];have : ((fun x : ByteArray => x.data.toList) ∘ bstr) = id := by funext x; rfl
  rw [this, List.map_id]
 have hg : g < w ∧ ts.length + 1 ≤ cap := by
  rcases h.2 with ⟨h, _⟩ | ⟨g', cap', cur, h, _, hb, hc, _⟩
  ·cases h
  ·injection h with h1 _ h3
   injection h1 with h1
   injection h1 with h1 _ _
   subst h1;subst h3;exact ⟨(κi hb).1, hc⟩
 have := Tryz.strings_Join g 0 cap ((y :: ts).map bstr) ⟨#[32]⟩ w (fun j x hx => by
  have hj : j < ts.length + 1 := by have := (List.getElem?_eq_some_iff.1 hx).1; simpa using this
  rw [Nat.zero_add, h.cellAt j (by omega)];rw [List.getElem?_map] at hx ⊢;rw [Option.map_eq_some_iff] at hx;obtain ⟨b, hb, rfl⟩ := hx;rw [hb];rfl) hg.1 (by simp; omega) (by simpa using hg.2) (by rw [hmap, eI]; omega)
 rw [hmap, eI] at this;have hlen : ((y :: ts).map bstr).length = ts.length + 1 := by simp
 rw [hlen] at this;exact this
theorem nS (b : Bd) : (bidT b).length = 4 + b.steps.length * 4 := by
 have := kM b.steps;unfold bidT;rw [κc, κc, κc, κa, this];simp;omega
theorem bM (u : Un) : (unitT u).length = 11 + u.steps.length * 4 := by
 have := kM u.steps;unfold unitT;rw [κc, κc, κa, κa, this, List.length_map];simp [zW];omega
theorem yN (y : Bytes) (A : Option Addr) (c : Nat) (l : List Bd) (w : World) (hl : RowR BdR 2 w w A l) (hn : l.length ≤ 100) (hy : y.length ≤ 100) (nb : Int) (hnb : nb ≤ 6) (hok : ∀ x ∈ l, bidE nb x = 0) :
  Calls Tryz.prog 68 #[.string (bstr y), .slice A l.length c, .func (.func 69) #[] #[]] w (TxtE w (listS y (l.map (fun x => fmtT (bidT x))))) ∧ (listS y (l.map (fun x => fmtT (bidT x)))).length ≤ y.length + l.length * 1001 + 2 := by
 obtain ⟨i0, hi, hy0, hy1, hy2⟩ := info_parts kU;have hlen : ∀ x ∈ l, ((fun x => fmtT (bidT x)) x).length ≤ 1000 := fun x hx => by
  have := xM (bidT x) none (mV (xY hnb (hok x hx)).2.1 (xY hnb (hok x hx)).2.2.2); have h3 := (xY hnb (hok x hx)).2.2.1; have h4 := nS x;show (fmtGo none (bidT x)).length ≤ _
  omega
 have hjl : (joinS y (l.map (fun x => fmtT (bidT x)))).length ≤ y.length + l.length * 1001 := by
  have := jZ (y := y) (ts := l.map (fun x => fmtT (bidT x))) (m := 1000) (fun t ht => by obtain ⟨x, hx, rfl⟩ := List.mem_map.1 ht; exact hlen x hx);rw [List.length_map] at this;exact this
 refine ⟨?_, by unfold listS; simp only [κc, κa, κn]; omega⟩;obtain ⟨J, hJ⟩ : ∃ J, J = joinS y (l.map (fun x => fmtT (bidT x))) := ⟨_, rfl⟩;rw [← hJ] at hjl;have ELS : Hid (listS y (l.map (fun x => fmtT (bidT x))) = 40 :: (J ++ [41])) := by show _ = _; rw [listS, hJ]
 have HJ := η hJ;generalize listS y (l.map (fun x => fmtT (bidT x))) = LS at *;have HL := η hl;have HOK := η hok;clear hl hok hlen hJ;go_enter Tryz.func68, Tryz.ntmps68;go_wp2_with fail;go_loopg [8, 17] l.length (fun gk s8 s17 wr => ∃ k : Nat, k + gk = l.length ∧ s17 = .int .i64 (k : Int) ∧ wr.ownsRow w 9 1 s8 (k + 1) ((y :: (l.take k).map (fun x => fmtT (bidT x))).map strV) ∧ Below w w wr)
 case atStart => exact ⟨0, by omega, rfl, ⟨rfl, .inr ⟨w, 1, _, rfl, νr _, heap_alloc_new w _, νr _, by unfold maxLen; omega, rfl, rfl⟩⟩, βA _⟩
 case round =>
  obtain ⟨k, hkg, rfl, hrow, hbl⟩ := hrel;have HR := η hrow;have HB := η hbl;have hzw : w ≤ wr.heap.size := hbl.size;clear hrow hbl;cases gk with
  | zero =>
   obtain rfl : k = l.length := by omega
   clear hkg;rw [List.take_length] at HR;obtain ⟨g, cap, rfl⟩ : ∃ g c, u8 = .slice (some ⟨g, 0, none⟩) (l.length + 1) c := by
    rcases HR.out.2 with ⟨_, h⟩ | ⟨g, cap, cur, hv, _⟩
    ·omega
    ·exact ⟨g, cap, hv⟩
   have KJ := η (vV g cap y (l.map (fun x => fmtT (bidT x))) (l.length + 1) w wr (by simp) HR.out (by rw [← HJ.out]; omega) (by simp; omega));rw [← HJ.out] at KJ;have ep1 : ∀ W : World, (Op.stringOp .add ⟨#[40]⟩ (bstr J)).run Tryz.prog W = .ok (.string (bstr (40 :: J))) W := fun W => zF [40] J W (by simp; omega)
   have ep2 : ∀ W : World, (Op.stringOp .add (bstr (40 :: J)) ⟨#[41]⟩).run Tryz.prog W = .ok (.string (bstr (40 :: (J ++ [41])))) W := fun W => zF (40 :: J) [41] W (by simp; omega)
   clear HR;go_wp2_with fail;refine KJ.out.mono ?_;rintro e w1 ⟨rfl, hb1⟩;have HB1 := η (HB.out.trans (hb1.mono hzw));clear hb1 KJ HB;go_wp2_with fail;go_ret2;exact ⟨by rw [ELS.out]; rfl, HB1.out⟩
  | succ g =>
   have hk : k < l.length := by omega
   have HG := η hkg;clear hkg;obtain ⟨b, off, cc, rfl, hb, hc1, hc2, hc3⟩ := (HL.out.up BdR.keep HB.out).at_ k bd0 hk;have HXM := η (show l.getD k bd0 ∈ l by rw [zM l k _ hk]; exact List.getElem_mem hk);have HT : Hid (l.take (k + 1) = l.take k ++ [l.getD k bd0]) := by show _ = _; rw [κs hk, zM l k _ hk]
   generalize hxx : l.getD k bd0 = x at *;have HXX := η hxx;clear hxx;obtain ⟨Ax, cx, rfl, _, hst⟩ := hc2;have HST := η hst;clear hst;have hbw : b < wr := by omega
   have f0 := hc3 0 _ rfl;have f1 := hc3 1 _ rfl;rw [κz] at f0;clear hc1 hc3;have KF := η (sZ x nb Ax cx (wr.alloc (.cells #[.int .i64 x.bus, .slice Ax x.steps.length cx] 133)) (HST.out.keep StE.keep (fun p hp => World.cell?_alloc_lt _ _ _ (by omega)) (by simp; omega)) hnb (HOK.out x HXM.out));have HB1 : Hid (Below w w (wr.alloc (.cells #[.int .i64 x.bus, .slice Ax x.steps.length cx] 133))) := HB.out.alloc hzw _;have HR1 := η (qS HR.out (w' := (wr.alloc (.cells #[.int .i64 x.bus, .slice Ax x.steps.length cx] 133))) (βA _));go_wp2_with fail;refine KF.out.mono ?_;rintro e w2 ⟨rfl, hb2⟩;have hz2 : w ≤ w2.heap.size := Nat.le_trans (by simp; omega) hb2.size;have hown := qS HR1.out hb2;have HB2 := η (HB1.out.trans (hb2.mono (by simp; omega)));clear hb2 KF HB1 HR1 HR HB f0 f1 HST;obtain ⟨tx, htx⟩ : ∃ t, t = (fun x => fmtT (bidT x)) x := ⟨_, rfl⟩;have HTX := η htx
   try dsimp only at htx
   rw [← htx];clear htx;go_wp2_with (at_builtin; refine wpList_append_own _ rfl _ _ 71 rfl w 9 i0 _ 1 16 Tryz.underlying71 hi hy0 hy1 hy2 rfl (by decide) _ _ _ rfl (hown.alloc _) ⟨w2, 0, none⟩ 1 1 [.string (bstr tx)] rfl rfl (cell_one_new _ _ _) (by simp [Value.oneCell']) (by unfold maxLen; omega) (by omega) (by simp; omega) ?_; intro v' w3 hown' hgrow _);have HR3 : Hid (w3.ownsRow w 9 1 v' (k + 1 + 1) ((y :: (l.take (k + 1)).map (fun x => fmtT (bidT x))).map strV)) := by
    show World.ownsRow _ _ _ _ _ _ _
    rw [HT.out, List.map_append, ← κw, List.map_append, show List.map strV (List.map (fun x => fmtT (bidT x)) [x]) = [.string (bstr tx)] by rw [HTX.out]; rfl];exact hown'
   have HB3 := η (HB2.out.trans (zH hown hz2 hgrow));clear hown' hgrow hown HB2;go_wp2_with fail;go_roundg g
   case measure => omega
   case rel => exact ⟨k + 1, by have := HG.out; omega, by go_num, HR3.out, HB3.out⟩
theorem fC (y : Bytes) (A : Option Addr) (c : Nat) (l : List Un) (w : World) (hl : RowR UnR 9 w w A l) (hn : l.length ≤ 100) (hy : y.length ≤ 100) (nb : Int) (hnb : nb ≤ 6) (hok : ∀ x ∈ l, unitE nb x = 0) :
  Calls Tryz.prog 21 #[.string (bstr y), .slice A l.length c, .func (.func 22) #[] #[]] w (TxtE w (listS y (l.map (fun x => fmtT (unitT x))))) ∧ (listS y (l.map (fun x => fmtT (unitT x)))).length ≤ y.length + l.length * 1001 + 2 := by
 obtain ⟨i0, hi, hy0, hy1, hy2⟩ := info_parts kU;have hlen : ∀ x ∈ l, ((fun x => fmtT (unitT x)) x).length ≤ 1000 := fun x hx => by
  have := xM (unitT x) none (mZ (vO hnb (hok x hx)).2.1 (vO hnb (hok x hx)).2.2.2); have h3 := (vO hnb (hok x hx)).2.2.1; have h4 := bM x;show (fmtGo none (unitT x)).length ≤ _
  omega
 have hjl : (joinS y (l.map (fun x => fmtT (unitT x)))).length ≤ y.length + l.length * 1001 := by
  have := jZ (y := y) (ts := l.map (fun x => fmtT (unitT x))) (m := 1000) (fun t ht => by obtain ⟨x, hx, rfl⟩ := List.mem_map.1 ht; exact hlen x hx);rw [List.length_map] at this;exact this
 refine ⟨?_, by unfold listS; simp only [κc, κa, κn]; omega⟩;obtain ⟨J, hJ⟩ : ∃ J, J = joinS y (l.map (fun x => fmtT (unitT x))) := ⟨_, rfl⟩;rw [← hJ] at hjl;have ELS : Hid (listS y (l.map (fun x => fmtT (unitT x))) = 40 :: (J ++ [41])) := by show _ = _; rw [listS, hJ]
 have HJ := η hJ;generalize listS y (l.map (fun x => fmtT (unitT x))) = LS at *;have HL := η hl;have HOK := η hok;clear hl hok hlen hJ;go_enter Tryz.func21, Tryz.ntmps21;go_wp2_with fail;go_loopg [8, 17] l.length (fun gk s8 s17 wr => ∃ k : Nat, k + gk = l.length ∧ s17 = .int .i64 (k : Int) ∧ wr.ownsRow w 9 1 s8 (k + 1) ((y :: (l.take k).map (fun x => fmtT (unitT x))).map strV) ∧ Below w w wr)
 case atStart => exact ⟨0, by omega, rfl, ⟨rfl, .inr ⟨w, 1, _, rfl, νr _, heap_alloc_new w _, νr _, by unfold maxLen; omega, rfl, rfl⟩⟩, βA _⟩
 case round =>
  obtain ⟨k, hkg, rfl, hrow, hbl⟩ := hrel;have HR := η hrow;have HB := η hbl;have hzw : w ≤ wr.heap.size := hbl.size;clear hrow hbl;cases gk with
  | zero =>
   obtain rfl : k = l.length := by omega
   clear hkg;rw [List.take_length] at HR;obtain ⟨g, cap, rfl⟩ : ∃ g c, u8 = .slice (some ⟨g, 0, none⟩) (l.length + 1) c := by
    rcases HR.out.2 with ⟨_, h⟩ | ⟨g, cap, cur, hv, _⟩
    ·omega
    ·exact ⟨g, cap, hv⟩
   have KJ := η (vV g cap y (l.map (fun x => fmtT (unitT x))) (l.length + 1) w wr (by simp) HR.out (by rw [← HJ.out]; omega) (by simp; omega));rw [← HJ.out] at KJ;have ep1 : ∀ W : World, (Op.stringOp .add ⟨#[40]⟩ (bstr J)).run Tryz.prog W = .ok (.string (bstr (40 :: J))) W := fun W => zF [40] J W (by simp; omega)
   have ep2 : ∀ W : World, (Op.stringOp .add (bstr (40 :: J)) ⟨#[41]⟩).run Tryz.prog W = .ok (.string (bstr (40 :: (J ++ [41])))) W := fun W => zF (40 :: J) [41] W (by simp; omega)
   clear HR;go_wp2_with fail;refine KJ.out.mono ?_;rintro e w1 ⟨rfl, hb1⟩;have HB1 := η (HB.out.trans (hb1.mono hzw));clear hb1 KJ HB;go_wp2_with fail;go_ret2;exact ⟨by rw [ELS.out]; rfl, HB1.out⟩
  | succ g =>
   have hk : k < l.length := by omega
   have HG := η hkg;clear hkg;obtain ⟨b, off, cc, rfl, hb, hc1, hc2, hc3⟩ := (HL.out.up UnR.keep HB.out).at_ k un0 hk;have HXM := η (show l.getD k un0 ∈ l by rw [zM l k _ hk]; exact List.getElem_mem hk);have HT : Hid (l.take (k + 1) = l.take k ++ [l.getD k un0]) := by show _ = _; rw [κs hk, zM l k _ hk]
   generalize hxx : l.getD k un0 = x at *;have HXX := η hxx;clear hxx;obtain ⟨Ax, cx, rfl, _, hst⟩ := hc2;have HST := η hst;clear hst;have hbw : b < wr := by omega
   have f0 := hc3 0 _ rfl;have f1 := hc3 1 _ rfl;have f2 := hc3 2 _ rfl;have f3 := hc3 3 _ rfl;have f4 := hc3 4 _ rfl;have f5 := hc3 5 _ rfl;have f6 := hc3 6 _ rfl;have f7 := hc3 7 _ rfl;have f8 := hc3 8 _ rfl;rw [κz] at f0;clear hc1 hc3;have KF := η (eR x nb Ax cx (wr.alloc (.cells #[.int .i64 x.bus, .int .i64 x.min, .slice Ax x.steps.length cx, .int .i64 x.up, .int .i64 x.down, .int .i64 x.start, .int .i64 x.idle, .int .i64 x.spin, .int .i64 x.on] 62)) (HST.out.keep StE.keep (fun p hp => World.cell?_alloc_lt _ _ _ (by omega)) (by simp; omega)) hnb (HOK.out x HXM.out));have HB1 : Hid (Below w w (wr.alloc (.cells #[.int .i64 x.bus, .int .i64 x.min, .slice Ax x.steps.length cx, .int .i64 x.up, .int .i64 x.down, .int .i64 x.start, .int .i64 x.idle, .int .i64 x.spin, .int .i64 x.on] 62))) := HB.out.alloc hzw _;have HR1 := η (qS HR.out (w' := (wr.alloc (.cells #[.int .i64 x.bus, .int .i64 x.min, .slice Ax x.steps.length cx, .int .i64 x.up, .int .i64 x.down, .int .i64 x.start, .int .i64 x.idle, .int .i64 x.spin, .int .i64 x.on] 62))) (βA _));go_wp2_with fail;refine KF.out.mono ?_;rintro e w2 ⟨rfl, hb2⟩;have hz2 : w ≤ w2.heap.size := Nat.le_trans (by simp; omega) hb2.size;have hown := qS HR1.out hb2;have HB2 := η (HB1.out.trans (hb2.mono (by simp; omega)));clear hb2 KF HB1 HR1 HR HB f0 f1 f2 f3 f4 f5 f6 f7 f8 HST;obtain ⟨tx, htx⟩ : ∃ t, t = (fun x => fmtT (unitT x)) x := ⟨_, rfl⟩;have HTX := η htx
   try dsimp only at htx
   rw [← htx];clear htx;go_wp2_with (at_builtin; refine wpList_append_own _ rfl _ _ 71 rfl w 9 i0 _ 1 16 Tryz.underlying71 hi hy0 hy1 hy2 rfl (by decide) _ _ _ rfl (hown.alloc _) ⟨w2, 0, none⟩ 1 1 [.string (bstr tx)] rfl rfl (cell_one_new _ _ _) (by simp [Value.oneCell']) (by unfold maxLen; omega) (by omega) (by simp; omega) ?_; intro v' w3 hown' hgrow _);have HR3 : Hid (w3.ownsRow w 9 1 v' (k + 1 + 1) ((y :: (l.take (k + 1)).map (fun x => fmtT (unitT x))).map strV)) := by
    show World.ownsRow _ _ _ _ _ _ _
    rw [HT.out, List.map_append, ← κw, List.map_append, show List.map strV (List.map (fun x => fmtT (unitT x)) [x]) = [.string (bstr tx)] by rw [HTX.out]; rfl];exact hown'
   have HB3 := η (HB2.out.trans (zH hown hz2 hgrow));clear hown' hgrow hown HB2;go_wp2_with fail;go_roundg g
   case measure => omega
   case rel => exact ⟨k + 1, by have := HG.out; omega, by go_num, HR3.out, HB3.out⟩
theorem uG (y : Bytes) (A : Option Addr) (c : Nat) (l : List Og) (w : World) (hl : RowR OgE' 4 w w A l) (hn : l.length ≤ 100) (hy : y.length ≤ 100) (hok : ∀ x ∈ l, (x.1 = 1 ∨ x.1 = 2 ∨ x.1 = 3) ∧ qG x = true) :
  Calls Tryz.prog 25 #[.string (bstr y), .slice A l.length c, .func (.func 26) #[] #[]] w (TxtE w (listS y (l.map (fun x => fmtT (outT x))))) ∧ (listS y (l.map (fun x => fmtT (outT x)))).length ≤ y.length + l.length * 1001 + 2 := by
 obtain ⟨i0, hi, hy0, hy1, hy2⟩ := info_parts kU;have hlen : ∀ x ∈ l, ((fun x => fmtT (outT x)) x).length ≤ 1000 := fun x hx => by
  have h := (hok x hx).2; unfold qG at h; simp only [κb, κe] at h; have := xM (outT x) none (fM (by unfold small; split at h <;> omega)); have h4 : (outT x).length = 6 := rfl;show (fmtGo none (outT x)).length ≤ _
  omega
 have hjl : (joinS y (l.map (fun x => fmtT (outT x)))).length ≤ y.length + l.length * 1001 := by
  have := jZ (y := y) (ts := l.map (fun x => fmtT (outT x))) (m := 1000) (fun t ht => by obtain ⟨x, hx, rfl⟩ := List.mem_map.1 ht; exact hlen x hx);rw [List.length_map] at this;exact this
 refine ⟨?_, by unfold listS; simp only [κc, κa, κn]; omega⟩;obtain ⟨J, hJ⟩ : ∃ J, J = joinS y (l.map (fun x => fmtT (outT x))) := ⟨_, rfl⟩;rw [← hJ] at hjl;have ELS : Hid (listS y (l.map (fun x => fmtT (outT x))) = 40 :: (J ++ [41])) := by show _ = _; rw [listS, hJ]
 have HJ := η hJ;generalize listS y (l.map (fun x => fmtT (outT x))) = LS at *;have HL := η hl;have HOK := η hok;clear hl hok hlen hJ;go_enter Tryz.func25, Tryz.ntmps25;go_wp2_with fail;go_loopg [8, 17] l.length (fun gk s8 s17 wr => ∃ k : Nat, k + gk = l.length ∧ s17 = .int .i64 (k : Int) ∧ wr.ownsRow w 9 1 s8 (k + 1) ((y :: (l.take k).map (fun x => fmtT (outT x))).map strV) ∧ Below w w wr)
 case atStart => exact ⟨0, by omega, rfl, ⟨rfl, .inr ⟨w, 1, _, rfl, νr _, heap_alloc_new w _, νr _, by unfold maxLen; omega, rfl, rfl⟩⟩, βA _⟩
 case round =>
  obtain ⟨k, hkg, rfl, hrow, hbl⟩ := hrel;have HR := η hrow;have HB := η hbl;have hzw : w ≤ wr.heap.size := hbl.size;clear hrow hbl;cases gk with
  | zero =>
   obtain rfl : k = l.length := by omega
   clear hkg;rw [List.take_length] at HR;obtain ⟨g, cap, rfl⟩ : ∃ g c, u8 = .slice (some ⟨g, 0, none⟩) (l.length + 1) c := by
    rcases HR.out.2 with ⟨_, h⟩ | ⟨g, cap, cur, hv, _⟩
    ·omega
    ·exact ⟨g, cap, hv⟩
   have KJ := η (vV g cap y (l.map (fun x => fmtT (outT x))) (l.length + 1) w wr (by simp) HR.out (by rw [← HJ.out]; omega) (by simp; omega));rw [← HJ.out] at KJ;have ep1 : ∀ W : World, (Op.stringOp .add ⟨#[40]⟩ (bstr J)).run Tryz.prog W = .ok (.string (bstr (40 :: J))) W := fun W => zF [40] J W (by simp; omega)
   have ep2 : ∀ W : World, (Op.stringOp .add (bstr (40 :: J)) ⟨#[41]⟩).run Tryz.prog W = .ok (.string (bstr (40 :: (J ++ [41])))) W := fun W => zF (40 :: J) [41] W (by simp; omega)
   clear HR;go_wp2_with fail;refine KJ.out.mono ?_;rintro e w1 ⟨rfl, hb1⟩;have HB1 := η (HB.out.trans (hb1.mono hzw));clear hb1 KJ HB;go_wp2_with fail;go_ret2;exact ⟨by rw [ELS.out]; rfl, HB1.out⟩
  | succ g =>
   have hk : k < l.length := by omega
   have HG := η hkg;clear hkg;obtain ⟨b, off, cc, rfl, hb, hc1, hc2, hc3⟩ := (HL.out.up OgE'.keep HB.out).at_ k (0, 0, 0, 0) hk;have HXM := η (show l.getD k (0, 0, 0, 0) ∈ l by rw [zM l k _ hk]; exact List.getElem_mem hk);have HT : Hid (l.take (k + 1) = l.take k ++ [l.getD k (0, 0, 0, 0)]) := by show _ = _; rw [κs hk, zM l k _ hk]
   generalize hxx : l.getD k (0, 0, 0, 0) = x at *;have HXX := η hxx;clear hxx;replace hc2 : cc = _ := hc2;subst hc2;have hbw : b < wr := by omega
   have f0 := hc3 0 _ rfl;have f1 := hc3 1 _ rfl;have f2 := hc3 2 _ rfl;have f3 := hc3 3 _ rfl;rw [κz] at f0;clear hc1 hc3;have KF := η (sW x (wr.alloc (.cells #[.int .u8 x.1, .int .i64 x.2.1, .int .i64 x.2.2.1, .int .i64 x.2.2.2] 53)) (HOK.out x HXM.out).1 (HOK.out x HXM.out).2);have HB1 : Hid (Below w w (wr.alloc (.cells #[.int .u8 x.1, .int .i64 x.2.1, .int .i64 x.2.2.1, .int .i64 x.2.2.2] 53))) := HB.out.alloc hzw _;have HR1 := η (qS HR.out (w' := (wr.alloc (.cells #[.int .u8 x.1, .int .i64 x.2.1, .int .i64 x.2.2.1, .int .i64 x.2.2.2] 53))) (βA _));go_wp2_with fail;refine KF.out.mono ?_;rintro e w2 ⟨rfl, hb2⟩;have hz2 : w ≤ w2.heap.size := Nat.le_trans (by simp; omega) hb2.size;have hown := qS HR1.out hb2;have HB2 := η (HB1.out.trans (hb2.mono (by simp; omega)));clear hb2 KF HB1 HR1 HR HB f0 f1 f2 f3;obtain ⟨tx, htx⟩ : ∃ t, t = (fun x => fmtT (outT x)) x := ⟨_, rfl⟩;have HTX := η htx
   try dsimp only at htx
   rw [← htx];clear htx;go_wp2_with (at_builtin; refine wpList_append_own _ rfl _ _ 71 rfl w 9 i0 _ 1 16 Tryz.underlying71 hi hy0 hy1 hy2 rfl (by decide) _ _ _ rfl (hown.alloc _) ⟨w2, 0, none⟩ 1 1 [.string (bstr tx)] rfl rfl (cell_one_new _ _ _) (by simp [Value.oneCell']) (by unfold maxLen; omega) (by omega) (by simp; omega) ?_; intro v' w3 hown' hgrow _);have HR3 : Hid (w3.ownsRow w 9 1 v' (k + 1 + 1) ((y :: (l.take (k + 1)).map (fun x => fmtT (outT x))).map strV)) := by
    show World.ownsRow _ _ _ _ _ _ _
    rw [HT.out, List.map_append, ← κw, List.map_append, show List.map strV (List.map (fun x => fmtT (outT x)) [x]) = [.string (bstr tx)] by rw [HTX.out]; rfl];exact hown'
   have HB3 := η (HB2.out.trans (zH hown hz2 hgrow));clear hown' hgrow hown HB2;go_wp2_with fail;go_roundg g
   case measure => omega
   case rel => exact ⟨k + 1, by have := HG.out; omega, by go_num, HR3.out, HB3.out⟩
end Go.Proofs.YtkfhpefmmhljmaaGreatDoor
