/- Texts in one: Sqz, CpG. -/
import Derived.Test.YtkfhpefmmhljmaaGreatDoorF28
set_option linter.unusedVariables false
set_option linter.unusedSimpArgs false
set_option maxHeartbeats 16000000
set_option maxRecDepth 100000
namespace Go.Proofs.YtkfhpefmmhljmaaGreatDoor
open Go.RowKit
theorem sqA {b : Bool} {P Q : Prop} (h : b = true) (p : P) : (b = true → P) ∧ (b = false → Q) := ⟨fun _ => p, fun k => absurd (h.symm.trans k) (by decide)⟩
theorem sqB {b : Bool} {P Q : Prop} (h : b = false) (q : Q) : (b = true → P) ∧ (b = false → Q) := ⟨fun k => absurd (h.symm.trans k) (by decide), fun _ => q⟩
theorem sqN (a b : Nat) {p : Prop} (h : a = b) (hd : Nat.beq a b = false := by rfl) : p := absurd h (Nat.ne_of_beq_eq_false hd)
theorem sqC (a : Act) : ∀ v, a.eval (.const v) = v := fun _ => rfl
theorem sqF (a : Act) : ∀ f, a.eval (.func f) = .func (.func f) #[] #[] := fun _ => rfl
theorem sqD {ops : Array Oper} {o : Oper} {Pr : Edge → Tmp → Prop} (h : ∀ e ∈ o.after, Region.binds .any e = true → ∀ (o' : Oper) (d : Tmp), ops[e.on]? = some o' → o'.dst = some d → Pr e d) :
  ∀ (e : Edge) {o' : Oper} {d : Tmp}, (_ : e ∈ o.after := by simp) → (_ : Region.binds .any e = true := by rfl) → (_ : ops[e.on]? = some o' := by rfl) → (_ : o'.dst = some d := by rfl) → Pr e d :=
 fun e _ _ h1 h2 h3 h4 => h e h1 h2 _ _ h3 h4
theorem sqG {ops : Array Oper} {o : Oper} {Pr : Tmp → Bool → Prop} {Qr : Bool → Bool → Prop} (h : ∀ (j : Nat) (want : Bool), o.guard = some (j, want) → ∀ (o' : Oper) (d : Tmp), ops[j]? = some o' → o'.dst = some d → ∀ b, Pr d b → Qr b want) :
  ∀ (j : Nat) (want : Bool) (b : Bool) {o' : Oper} {d : Tmp}, Pr d b → (_ : o.guard = some (j, want) := by rfl) → (_ : ops[j]? = some o' := by rfl) → (_ : o'.dst = some d := by rfl) → Qr b want :=
 fun j want b _ _ p h1 h2 h3 => h j want h1 _ _ h2 h3 b p
theorem sqE {ops : Array Oper} {o : Oper} {m : Nat} {Pr : Edge → Tmp → Prop} (h : ∀ e ∈ o.after, Region.binds .any e = true → e.on ≠ m → ∀ (o' : Oper) (d : Tmp), ops[e.on]? = some o' → o'.dst = some d → Pr e d) :
  ∀ (e : Edge) {o' : Oper} {d : Tmp}, e.on ≠ m → (_ : e ∈ o.after := by simp) → (_ : Region.binds .any e = true := by rfl) → (_ : ops[e.on]? = some o' := by rfl) → (_ : o'.dst = some d := by rfl) → Pr e d :=
 fun e _ _ hm h1 h2 h3 h4 => h e h1 h2 hm _ _ h3 h4
theorem sqM (a b : Nat) (hd : Nat.beq a b = false := by rfl) : a ≠ b := Nat.ne_of_beq_eq_false hd
theorem sqT (i n m q : Nat) {b : Bool} {A B C D Q : Prop} (d : D) (h1 : Nat.beq i n = false := by rfl) (h2 : Nat.beq i m = false := by rfl) (h3 : Nat.beq i q = false := by rfl) (hb : b = true := by rfl) :
  (b = true → (i = n → A) ∧ (i = m → B) ∧ (i = q → C) ∧ (i ≠ n → i ≠ m → i ≠ q → D)) ∧ (b = false → Q) :=
 ⟨fun _ => ⟨fun h => sqN i n h h1, fun h => sqN i m h h2, fun h => sqN i q h h3, fun _ _ _ => d⟩, fun k => absurd (hb.symm.trans k) (by decide)⟩
theorem sqI {b : Bool} {P Q R : Prop} (p : P) (hb : b = true := by rfl) : (b = true → P ∨ Q) ∧ (b = false → R) := ⟨fun _ => .inl p, fun k => absurd (hb.symm.trans k) (by decide)⟩
theorem sqJ {b : Bool} {P R : Prop} (p : P) (hb : b = true := by rfl) : (b = true → P) ∧ (b = false → R) := ⟨fun _ => p, fun k => absurd (hb.symm.trans k) (by decide)⟩
theorem lG : (Tryz.prog.info? 127).map (fun i => (i.zero, i.size, i.bytes)) = some (some (.agg #[.int .i64 0, .int .i64 0, .int .i64 0, .int .i64 0]), 4, 32) := by kernel_rfl
theorem gA (n : Int) (ls : List Ln) : zX n ls ≠ -1 := by
 unfold zX;split
 ·decide
 ·split
  ·decide
  ·split <;> decide
theorem eG (s : Bytes) (rd : Rd) : Adv rd (lineR s rd).2 := ((((((qJ s 1 rd).trans (kQ s [108, 105, 110, 101] _)).trans (zV s _)).trans (zV s _)).trans (zV s _)).trans (zV s _)).trans (qJ s 2 _)
theorem sE (s : Bytes) (i : Int) (w : World) (hs : SlOk s) (hl : s.length ≤ 1000000) (hi : -9223372036854775808 ≤ i ∧ i ≤ 9223372036854775807) :
  Calls Tryz.prog 47 #[.string (bstr s), .int .i64 i] w (ParE NtO (netP s i) w) := by
 obtain ⟨i0, hi0, hy0, hy1, hy2⟩ := info_parts lG;have KT := η fun k rd W hk hR => xU (w + 1) s k rd W hs hl hk hR
 have KW := η fun y rd W hR => dS (w + 1) s y rd W hs hl hR
 have KI := η fun rd W hR => yQ (w + 1) s rd W hs hl hR
 have KL := η fun rd W hR => sM (w + 1) s rd W hs hl hR
 have KPk := η fun i W hi => xS s i 1 W hs hi hl (by decide)
 have E : Hid (netR s i = (⟨(rInt s (rWord s [110, 101, 116] (rTok s 1 ⟨i, 0⟩))).1, (jT s (fuel s) (rInt s (rWord s [110, 101, 116] (rTok s 1 ⟨i, 0⟩))).2).1⟩, rTok s 2 (jT s (fuel s) (rInt s (rWord s [110, 101, 116] (rTok s 1 ⟨i, 0⟩))).2).2)) := rfl;have EP : Hid (netP s i = fin nt0 (fun n => zX n.buses n.lines) (netR s i)) := rfl;generalize netP s i = RP at *;generalize netR s i = R at *;have HX : Hid (Box ((w.alloc (.cells #[.int .i64 0, .slice none 0 0] 24)).alloc (.cells #[.string (bstr s), .int .i64 i, .int .i64 0] 167)) w [.int .i64 0, .slice none 0 0]) := (Box.new w #[.int .i64 0, .slice none 0 0] 24).alloc (by simp) _;have HR : Hid (RdR ((w.alloc (.cells #[.int .i64 0, .slice none 0 0] 24)).alloc (.cells #[.string (bstr s), .int .i64 i, .int .i64 0] 167)) (w + 1) s ⟨i, 0⟩) := by
  show RdR _ _ _ _
  refine RdR.start _ _ _ _ hi ?_;have := Box.new (w.alloc (.cells #[.int .i64 0, .slice none 0 0] 24)) #[.string (bstr s), .int .i64 i, .int .i64 0] 167;simpa using this
 have HB : Hid (Below w w ((w.alloc (.cells #[.int .i64 0, .slice none 0 0] 24)).alloc (.cells #[.string (bstr s), .int .i64 i, .int .i64 0] 167))) := (βA _).alloc (by simp) _;have hzz : w + 1 < ((w.alloc (.cells #[.int .i64 0, .slice none 0 0] 24)).alloc (.cells #[.string (bstr s), .int .i64 i, .int .i64 0] 167)).heap.size := by simp
 clear hs hi;go_enter Tryz.func47, Tryz.ntmps47;obtain ⟨q0, s0, q1, s1⟩ := sqX2 HX.out;go_wp2_with fail;refine (KT.out 1 _ _ (by decide) HR.out).mono ?_;rintro e w1 ⟨k', t, ng, A, l, c, ng', A', l', c', rfl, _, hR, hg⟩;have HX1 := η (HX.out.grown hg (by omega) (by omega));have HB1 := η (zD HB.out hg (by omega) (by omega));have hz1 : w + 1 < w1.heap.size := νl hzz hg.size;replace HR := η hR;clear HX HB hzz hR hg;have HX := HX1;have HB := HB1;have hzz := hz1;clear HX1 HB1 hz1;generalize rTok s 1 ⟨i, 0⟩ = rd1 at *;clear q0 q1 s0 s1;obtain ⟨q0, s0, q1, s1⟩ := sqX2 HX.out;go_wp2_with fail;refine (KW.out [110, 101, 116] _ _ HR.out).mono ?_;rintro e w2 ⟨rfl, hR, hg⟩;have HX2 := η (HX.out.grown hg (by omega) (by omega));have HB2 := η (zD HB.out hg (by omega) (by omega));have hz2 : w + 1 < w2.heap.size := νl hzz hg.size;replace HR := η hR;clear HX HB hzz hR hg;have HX := HX2;have HB := HB2;have hzz := hz2;clear HX2 HB2 hz2;generalize rWord s [110, 101, 116] rd1 = rd2 at *;clear q0 q1 s0 s1;obtain ⟨q0, s0, q1, s1⟩ := sqX2 HX.out;go_wp2_with fail;refine (KI.out _ _ HR.out).mono ?_;rintro e w3 ⟨rfl, hR, hg⟩;have HX3 := η (HX.out.grown hg (by omega) (by omega));have HB3 := η (zD HB.out hg (by omega) (by omega));have hz3 : w + 1 < w3.heap.size := νl hzz hg.size;replace HR := η hR;clear HX HB hzz hR hg;have HX := HX3;have HB := HB3;have hzz := hz3;clear HX3 HB3 hz3;generalize rInt s rd2 = ri3 at *;obtain ⟨n3, rd3⟩ := ri3;dsimp only at E HR ⊢;clear q0 q1 s0 s1;obtain ⟨q0, s0, q1, s1⟩ := sqX2 HX.out;replace HR := η (HR.out.set (p := ⟨w, 0, none⟩) (by simp) (.int .i64 n3));replace HX := η (HX.out.set1 0 (by simp) (.int .i64 n3));replace HX : Hid (Box (w3.setCell ⟨w, 0, none⟩ (.int .i64 n3)) w [.int .i64 n3, .slice none 0 0]) := HX.out;replace HB := η (HB.out.setCell (p := ⟨w, 0, none⟩) (νr _) (.int .i64 n3));have hzp : w + 1 < (w3.setCell ⟨w, 0, none⟩ (.int .i64 n3)).heap.size := by simp; omega
 clear hzz;have hzz := hzp;clear hzp;go_wp2_with fail;clear q0 q1 s0 s1;generalize (w3.setCell ⟨w, 0, none⟩ (.int .i64 n3)) = w4 at *;generalize hPR : jT s (fuel s) rd3 = PR at *;have ENET := E;have HPR := η hPR;clear E hPR;go_loopg [] (fuel s) (fun g wr => ∃ rd acc v, Box wr w [.int .i64 n3, v] ∧ RowO LnE 127 4 wr (w + 2) v acc ∧ RdR wr (w + 1) s rd ∧ Below w w wr ∧ w + 1 < wr.heap.size ∧ PR = (acc ++ (jT s g rd).1, (jT s g rd).2) ∧ (goOn s rd = true → (s.length : Int) < rd.i + g) ∧ acc.length + g ≤ fuel s)
 case atStart =>
  refine ⟨rd3, [], _, HX.out, RowO.nil_ _ _ _ _ _, HR.out, HB.out, hzz, HPR.out.symm, fun h => ?_, by simp⟩;have := qH h;unfold fuel;omega
 case round =>
  obtain ⟨rd, acc, v, hX, hrow, hR, hB', hz2, hst, hme, hlen⟩ := hrel;have hR' := hR;obtain ⟨i', er, hB, h0, h1, h2, h3⟩ := hR'.er;have HX2 := η hX;have HROW := η hrow;have HR2 := η hR;have HB2 := η hB';have HS := η hst;have HME := η hme;have hlt : w + 1 < wr.heap.size := hz2;have hz20 : w < wr.heap.size := by omega
  obtain ⟨p0, o0, p1, o1, p2, o2⟩ := sqX3 hB;have HROW2 := HROW;clear hX hrow hR hR' hB' hst hme HX HR HB hzz HPR HROW;by_cases he : rd.e = 0
  case neg =>
   have e0 : (er == 0) = false := βf fun h => he (h0.1 h)
   have HE : Hid (PR = (acc, rd)) := by
    show _ = _
    rw [HS.out];cases gk with
    | zero => rw [jT, κp]
    | succ g => rw [jT, if_neg (by simp [goOn, he]), κp]
   clear hB h0 h1 h2 h3 he HS HME;obtain ⟨A, c, rfl, hcap⟩ : ∃ A c, v = .slice A acc.length c ∧ acc.length ≤ c := by obtain ⟨_, _, _, _, ho⟩ := HROW2.out; exact zR ho
   go_wp2_with fail;refine (KT.out 2 _ _ (by decide) HR2.out).mono ?_;rintro e w5 ⟨k', t9, ng, A9, l9, c9, ng', A', l', c', rfl, _, hR, hg⟩;have HX5 := η (HX2.out.grown hg (by omega) (by omega));have HB5 := η (zD HB2.out hg (by omega) (by omega));have HROW5 := η (HROW2.out.grown LnE.own hg (by omega));have hz1 : w + 1 < w5.heap.size := νl hz2 hg.size;have hz0 : w < w5.heap.size := by omega
   have E := η (ENET.out.trans (by rw [HE.out]));clear ENET HE;generalize rTok s 2 rd = rd5 at *;have HR5 := η hR;clear hR hg HX2 HB2 HROW2 HR2 hz2;obtain ⟨i', er5, hB5, k0, k1, k2, k3⟩ := HR5.out.er;have HRB := η hB5;clear hB5;obtain ⟨q0, s0, q1, s1⟩ := sqX2 HX5.out;obtain ⟨u0, v0, u1, v1, u2, v2⟩ := sqX3 HRB.out;by_cases he5 : rd5.e = 0
   ·obtain rfl : er5 = 0 := k0.2 he5;have hp' := (k3 he5).1;subst hp';have HE5 := η he5;clear k0 k1 k2 k3 he5;obtain ⟨A', c', hv, hc, hr⟩ := HROW5.out.read (E' := LnE) (fun _ _ h => h);injection hv with hv1 hv2 hv3
    subst hv1 hv3;have KC := η (yA n3 A c acc w5 hr.lines);clear hr hc;go_wp2_with fail;refine KC.out.mono ?_;rintro e w6 ⟨rfl, hb6⟩;have HX6 := η (HX5.out.up hb6 hz0);have HB6 := η (HB5.out.trans (hb6.mono (κl hz0)));have HROW6 := η (HROW5.out.below LnE.own hb6);have HRB6 := η (HRB.out.up hb6 hz1);have hz61 : w + 1 < w6.heap.size := νl hz1 hb6.size;clear q0 q1 s0 s1 u0 u1 u2 v0 v1 v2 HX5 HB5 HROW5 HRB HR5 KC hb6 hz0 hz1;have hne := η (gA n3 acc);have EE := η (EP.out.trans (by rw [E.out]));clear EP E;generalize hck : zX n3 acc = ck at *;have HCK := η hck;clear hck;have HX7 := η (HX6.out.other (p := ⟨w + 1, 2, none⟩) (show w + 1 ≠ w.heap.size by omega) (.int .i64 ck));have HB7 := η (HB6.out.setCell (p := ⟨w + 1, 2, none⟩) (show w ≤ w.heap.size + 1 by omega) (.int .i64 ck));have HROW7 := η (HROW6.out.set LnE.own (g := w + 1) (by omega) [.int .i64 ck] 2);have HRB7 := η (HRB6.out.set1 2 (by simp) (.int .i64 ck));obtain ⟨u0, v0, u1, v1, u2, v2⟩ := sqX3 HRB6.out;have hz1 : w + 1 < (w6.setCell ⟨w + 1, 2, none⟩ (.int .i64 ck)).heap.size := by simpa using hz61
    have hz0 : w < (w6.setCell ⟨w + 1, 2, none⟩ (.int .i64 ck)).heap.size := by omega
    have HRB8 : Hid (Box (w6.setCell ⟨w + 1, 2, none⟩ (.int .i64 ck)) (w + 1) [.string (bstr s), .int .i64 rd5.i, .int .i64 ck]) := HRB7.out;have HROW8 : Hid (RowO LnE 127 4 (w6.setCell ⟨w + 1, 2, none⟩ (.int .i64 ck)) (w + 2) (.slice A acc.length c) acc) := HROW7.out;clear HX6 HB6 HROW6 HRB6 HRB7 HROW7 hz61;obtain ⟨q0, s0, q1, s1⟩ := sqX2 HX7.out;obtain ⟨y0, z0, y1, z1, y2, z2⟩ := sqX3 HRB8.out;by_cases hk : ck = 0
    ·subst hk;have EF : RP = (0, ⟨n3, acc⟩, rd5.i) := by rw [EE.out]; simp only [fin, HE5.out, HCK.out]; rfl
     go_wp2_with fail;clear q0 q1 s0 s1 u0 u1 u2 v0 v1 v2 y0 y1 y2 z0 z1 z2;generalize w6.setCell ⟨w + 1, 2, none⟩ (.int .i64 0) = w7 at *;refine zL (X := Unit) (w0 := w7) [5] (fun jq => [0, 0, 0, 0, 0, 1, 1, 1].getD jq 0) (fun jq => [0, 1, 1, 1, 1, 0, 1, 1].getD jq 0) (fun _ => [(4, .pointer (some ⟨w, 0, none⟩)), (7, .pointer (some ⟨w + 1, 0, none⟩)), (61, .agg #[.int .i64 n3, .slice A acc.length c]), (62, .pointer (some ⟨w + 1, 0, none⟩)), (63, .pointer (some ⟨w + 1, 0, none⟩)), (64, .pointer (some ⟨w + 1, 1, none⟩)), (65, .int .i64 rd5.i), (5, .int .i64 rd5.i), (6, .int .i64 0)]) (fun _ => []) [4, 7] (fun t _ W => match t with | 0 => Below w7 w7 W | _ => ∃ W0, Below w7 w7 W0 ∧ W = W0.setCells w 0 [.int .i64 n3, .slice A acc.length c]) () (Below.refl _ _).drew ?_ ?_ ?_
     ·intro T x t W hT hI htl;simp only [zA, and_true] at hT;rcases t with _ | _ | t
      ·skip
       replace hI : Below w7 w7 W := hI;have hsz := hI.size;have hlt : w < W.heap.size := by omega
       have c0 := (HX7.out.up hI hz0).c 0 _ rfl;have g0 := (HX7.out.up hI hz0).f 0 (by simp);have c1 := (HX7.out.up hI hz0).c 1 _ rfl;have g1 := (HX7.out.up hI hz0).f 1 (by simp);have c1z4 := (HRB8.out.up hI hz1).c 1 _ rfl;have g1z4 : w + 1 < W.heap.size := νl hz1 hI.size
       repeat' first | exact AllI.nil | apply AllI.cons
       all_goals intro hn hl hu
       all_goals first | exact absurd hn (by decide) | exact absurd hl (by decide) | exact absurd hu (by decide) | (refine rdT ?_; simp [go_sem, EvT, hT, c0, g0, c1, g1, hlt, c1z4, g1z4, valT])
      ·skip
       obtain ⟨W0, hI0, rfl⟩ : ∃ W0, Below w7 w7 W0 ∧ W = W0.setCells w 0 [.int .i64 n3, .slice A acc.length c] := hI;have c1 := ((HRB8.out.up hI0 hz1).others (b' := w) (by omega) 0 [.int .i64 n3, .slice A acc.length c]).c 1 _ rfl;have g1 : w + 1 < (W0.setCells w 0 [.int .i64 n3, .slice A acc.length c]).heap.size := by rw [zG]; exact νl hz1 hI0.size
       generalize W0.setCells w 0 [.int .i64 n3, .slice A acc.length c] = W0 at *;have hI := hI0
       repeat' first | exact AllI.nil | apply AllI.cons
       all_goals intro hn hl hu
       all_goals first | exact absurd hn (by decide) | exact absurd hl (by decide) | exact absurd hu (by decide) | (refine rdT ?_; simp [go_sem, EvT, hT, c1, g1, valT])
      ·exact absurd htl (by simp)
     ·intro T k x W o hk ho hT hI;simp only [zA, and_true] at hT;rcases k with _ | k
      ·cases ho;replace hI : Below w7 w7 W := hI;have hsz := hI.size;have hlt : w < W.heap.size := by omega
       have c0 := (HX7.out.up hI hz0).c 0 _ rfl;have g0 := (HX7.out.up hI hz0).f 0 (by simp);have c1 := (HX7.out.up hI hz0).c 1 _ rfl;have g1 := (HX7.out.up hI hz0).f 1 (by simp);refine chT_s (W' := ((W.setCell ⟨w, 0, none⟩ (.int .i64 n3)).setCell ⟨w, 1, none⟩ (.slice A acc.length c))) ?_ (⟨W, hI, rfl⟩);clear hI;simp [go_sem, EvT, hT, c0, g0, c1, g1, hlt]
      ·exact absurd hk (by simp)
     intro x wx hI;simp (decide := true) only [putT, valT, look, Act.put, σi, σo, σs, Nat.reduceAdd, if_true, if_false];replace hI : (fun t _ W => match t with | 0 => Below w7 w7 W | _ => ∃ W0, Below w7 w7 W0 ∧ W = W0.setCells w 0 [.int .i64 n3, .slice A acc.length c]) 1 x wx := hI
     (try dsimp only at hI)
     obtain ⟨W0, hb0, rfl⟩ : ∃ W0, Below w7 w7 W0 ∧ wx = W0.setCells w 0 [.int .i64 n3, .slice A acc.length c] := hI;have HXw := η ((HX7.out.up hb0 hz0).sets (vs' := [.int .i64 n3, .slice A acc.length c]) rfl);have HBw := η (zI (HB7.out.trans (hb0.mono (κl hz0))) (νr w) [.int .i64 n3, .slice A acc.length c] 0);have HROW8w := η ((HROW8.out.below LnE.own hb0).set LnE.own (g := w) (by omega) [.int .i64 n3, .slice A acc.length c] 0);have hlt : w < (W0.setCells w 0 [.int .i64 n3, .slice A acc.length c]).heap.size := by rw [zG]; exact νl hz0 hb0.size
     generalize W0.setCells w 0 [.int .i64 n3, .slice A acc.length c] = wz at *;clear hb0;obtain ⟨y0, z0, y1, z1⟩ := sqX2 HXw.out;go_wp2_with fail;exact κr (v := .tuple #[.agg #[.int .i64 n3, .slice A acc.length c], .int .i64 rd5.i, .int .i64 0]) (by simp [results, Tryz.results47, go_sem, y0, y1, hlt]) rfl (by rw [EF]; exact ⟨HBw.out, _, 0, rfl, ⟨_, rfl, HROW8w.out.mono LnE.own (by omega)⟩, .inl ⟨show (0 : Int) ≠ -1 by decide, rfl⟩⟩)
    ·have e1 : (ck == 0) = false := βf hk;have e2 : (ck != 0) = true := βt hk;have EF : RP = (ck, nt0, 0) := by rw [EE.out]; simp only [fin, HE5.out, HCK.out]; rw [if_neg (by simp), if_pos hk]
     go_wp2_with fail;clear q0 q1 s0 s1 u0 u1 u2 v0 v1 v2 y0 y1 y2 z0 z1 z2;generalize w6.setCell ⟨w + 1, 2, none⟩ (.int .i64 ck) = w7 at *;refine zL (X := Unit) (w0 := w7) [5] (fun jq => [0, 0, 0, 0, 0, 1, 1, 1].getD jq 0) (fun jq => [0, 1, 1, 1, 1, 0, 1, 1].getD jq 0) (fun _ => [(7, .pointer (some ⟨w + 1, 0, none⟩)), (4, .pointer (some ⟨w, 0, none⟩)), (56, .agg #[.int .i64 0, .slice none 0 0]), (57, .pointer (some ⟨w + 1, 0, none⟩)), (58, .pointer (some ⟨w + 1, 0, none⟩)), (59, .pointer (some ⟨w + 1, 2, none⟩)), (60, .int .i64 ck), (5, .int .i64 0), (6, .int .i64 ck)]) (fun _ => []) [7, 4] (fun t _ W => match t with | 0 => Below w7 w7 W | _ => ∃ W0, Below w7 w7 W0 ∧ W = W0.setCells w 0 [.int .i64 0, .slice none 0 0]) () (Below.refl _ _).drew ?_ ?_ ?_
     ·intro T x t W hT hI htl;simp only [zA, and_true] at hT;rcases t with _ | _ | t
      ·skip
       replace hI : Below w7 w7 W := hI;have c2 := (HRB8.out.up hI hz1).c 2 _ rfl;have g2 : w + 1 < W.heap.size := νl hz1 hI.size
       repeat' first | exact AllI.nil | apply AllI.cons
       all_goals intro hn hl hu
       all_goals first | exact absurd hn (by decide) | exact absurd hl (by decide) | exact absurd hu (by decide) | (refine rdT ?_; simp [go_sem, EvT, hT, c2, g2, valT])
      ·skip
       obtain ⟨W0, hI0, rfl⟩ : ∃ W0, Below w7 w7 W0 ∧ W = W0.setCells w 0 [.int .i64 0, .slice none 0 0] := hI;have c2 := ((HRB8.out.up hI0 hz1).others (b' := w) (by omega) 0 [.int .i64 0, .slice none 0 0]).c 2 _ rfl;have g2 : w + 1 < (W0.setCells w 0 [.int .i64 0, .slice none 0 0]).heap.size := by rw [zG]; exact νl hz1 hI0.size
       generalize W0.setCells w 0 [.int .i64 0, .slice none 0 0] = W0 at *;have hI := hI0
       repeat' first | exact AllI.nil | apply AllI.cons
       all_goals intro hn hl hu
       all_goals first | exact absurd hn (by decide) | exact absurd hl (by decide) | exact absurd hu (by decide) | (refine rdT ?_; simp [go_sem, EvT, hT, c2, g2, valT])
      ·exact absurd htl (by simp)
     ·intro T k x W o hk ho hT hI;simp only [zA, and_true] at hT;rcases k with _ | k
      ·cases ho;replace hI : Below w7 w7 W := hI;have hsz := hI.size;have hlt : w < W.heap.size := by omega
       have c0 := (HX7.out.up hI hz0).c 0 _ rfl;have g0 := (HX7.out.up hI hz0).f 0 (by simp);have c1 := (HX7.out.up hI hz0).c 1 _ rfl;have g1 := (HX7.out.up hI hz0).f 1 (by simp);refine chT_s (W' := ((W.setCell ⟨w, 0, none⟩ (.int .i64 0)).setCell ⟨w, 1, none⟩ (.slice none 0 0))) ?_ (⟨W, hI, rfl⟩);clear hI;simp [go_sem, EvT, hT, c0, g0, c1, g1, hlt]
      ·exact absurd hk (by simp)
     intro x wx hI;simp (decide := true) only [putT, valT, look, Act.put, σi, σo, σs, Nat.reduceAdd, if_true, if_false];replace hI : (fun t _ W => match t with | 0 => Below w7 w7 W | _ => ∃ W0, Below w7 w7 W0 ∧ W = W0.setCells w 0 [.int .i64 0, .slice none 0 0]) 1 x wx := hI
     (try dsimp only at hI)
     obtain ⟨W0, hb0, rfl⟩ : ∃ W0, Below w7 w7 W0 ∧ wx = W0.setCells w 0 [.int .i64 0, .slice none 0 0] := hI;have HXw := η ((HX7.out.up hb0 hz0).sets (vs' := [.int .i64 0, .slice none 0 0]) rfl);have HBw := η (zI (HB7.out.trans (hb0.mono (κl hz0))) (νr w) [.int .i64 0, .slice none 0 0] 0);have hlt : w < (W0.setCells w 0 [.int .i64 0, .slice none 0 0]).heap.size := by rw [zG]; exact νl hz0 hb0.size
     generalize W0.setCells w 0 [.int .i64 0, .slice none 0 0] = wz at *;clear hb0;obtain ⟨y0, z0, y1, z1⟩ := sqX2 HXw.out;go_wp2_with fail;exact κr (v := .tuple #[.agg #[.int .i64 0, .slice none 0 0], .int .i64 0, .int .i64 ck]) (by simp [results, Tryz.results47, go_sem, y0, y1, hlt]) rfl (by rw [EF]; exact ⟨HBw.out, _, ck, rfl, ⟨_, rfl, RowO.nil_ _ _ _ _ _⟩, .inl ⟨hne.out, rfl⟩⟩)
   ·have EF : RP = (rd5.e, nt0, 0) := by rw [EP.out, E.out]; simp only [fin]; rw [if_pos he5]
    have hne : er5 ≠ 0 := fun h => he5 (k0.1 h)
    have e1 : (er5 == 0) = false := βf hne;have e2 : (er5 != 0) = true := βt hne;have HER : Hid (ErR rd5.e er5) := by show ErR _ _; by_cases h : rd5.e = -1; exact .inr ⟨h, k2 h⟩; exact .inl ⟨h, k1 h⟩
    clear k0 k1 k2 k3 he5 hne;go_wp2_with fail;clear q0 q1 s0 s1 u0 u1 u2 v0 v1 v2;refine zL (X := Unit) (w0 := w5) [5] (fun jq => [0, 0, 0, 0, 0, 1, 1, 1].getD jq 0) (fun jq => [0, 1, 1, 1, 1, 0, 1, 1].getD jq 0) (fun _ => [(7, .pointer (some ⟨w + 1, 0, none⟩)), (4, .pointer (some ⟨w, 0, none⟩)), (56, .agg #[.int .i64 0, .slice none 0 0]), (57, .pointer (some ⟨w + 1, 0, none⟩)), (58, .pointer (some ⟨w + 1, 0, none⟩)), (59, .pointer (some ⟨w + 1, 2, none⟩)), (60, .int .i64 er5), (5, .int .i64 0), (6, .int .i64 er5)]) (fun _ => []) [7, 4] (fun t _ W => match t with | 0 => Below w5 w5 W | _ => ∃ W0, Below w5 w5 W0 ∧ W = W0.setCells w 0 [.int .i64 0, .slice none 0 0]) () (Below.refl _ _).drew ?_ ?_ ?_
    ·intro T x t W hT hI htl;simp only [zA, and_true] at hT;rcases t with _ | _ | t
     ·skip
      replace hI : Below w5 w5 W := hI;have c2 := (HRB.out.up hI hz1).c 2 _ rfl;have g2 : w + 1 < W.heap.size := νl hz1 hI.size
      repeat' first | exact AllI.nil | apply AllI.cons
      all_goals intro hn hl hu
      all_goals first | exact absurd hn (by decide) | exact absurd hl (by decide) | exact absurd hu (by decide) | (refine rdT ?_; simp [go_sem, EvT, hT, c2, g2, valT])
     ·skip
      obtain ⟨W0, hI0, rfl⟩ : ∃ W0, Below w5 w5 W0 ∧ W = W0.setCells w 0 [.int .i64 0, .slice none 0 0] := hI;have c2 := ((HRB.out.up hI0 hz1).others (b' := w) (by omega) 0 [.int .i64 0, .slice none 0 0]).c 2 _ rfl;have g2 : w + 1 < (W0.setCells w 0 [.int .i64 0, .slice none 0 0]).heap.size := by rw [zG]; exact νl hz1 hI0.size
      generalize W0.setCells w 0 [.int .i64 0, .slice none 0 0] = W0 at *;have hI := hI0
      repeat' first | exact AllI.nil | apply AllI.cons
      all_goals intro hn hl hu
      all_goals first | exact absurd hn (by decide) | exact absurd hl (by decide) | exact absurd hu (by decide) | (refine rdT ?_; simp [go_sem, EvT, hT, c2, g2, valT])
     ·exact absurd htl (by simp)
    ·intro T k x W o hk ho hT hI;simp only [zA, and_true] at hT;rcases k with _ | k
     ·cases ho;replace hI : Below w5 w5 W := hI;have hsz := hI.size;have hlt : w < W.heap.size := by omega
      have c0 := (HX5.out.up hI hz0).c 0 _ rfl;have g0 := (HX5.out.up hI hz0).f 0 (by simp);have c1 := (HX5.out.up hI hz0).c 1 _ rfl;have g1 := (HX5.out.up hI hz0).f 1 (by simp);refine chT_s (W' := ((W.setCell ⟨w, 0, none⟩ (.int .i64 0)).setCell ⟨w, 1, none⟩ (.slice none 0 0))) ?_ (⟨W, hI, rfl⟩);clear hI;simp [go_sem, EvT, hT, c0, g0, c1, g1, hlt]
     ·exact absurd hk (by simp)
    intro x wx hI;simp (decide := true) only [putT, valT, look, Act.put, σi, σo, σs, Nat.reduceAdd, if_true, if_false];replace hI : (fun t _ W => match t with | 0 => Below w5 w5 W | _ => ∃ W0, Below w5 w5 W0 ∧ W = W0.setCells w 0 [.int .i64 0, .slice none 0 0]) 1 x wx := hI
    (try dsimp only at hI)
    obtain ⟨W0, hb0, rfl⟩ : ∃ W0, Below w5 w5 W0 ∧ wx = W0.setCells w 0 [.int .i64 0, .slice none 0 0] := hI;have HXw := η ((HX5.out.up hb0 hz0).sets (vs' := [.int .i64 0, .slice none 0 0]) rfl);have HBw := η (zI (HB5.out.trans (hb0.mono (κl hz0))) (νr w) [.int .i64 0, .slice none 0 0] 0);have hlt : w < (W0.setCells w 0 [.int .i64 0, .slice none 0 0]).heap.size := by rw [zG]; exact νl hz0 hb0.size
    generalize W0.setCells w 0 [.int .i64 0, .slice none 0 0] = wz at *;clear hb0;obtain ⟨y0, z0, y1, z1⟩ := sqX2 HXw.out;go_wp2_with fail;exact κr (v := .tuple #[.agg #[.int .i64 0, .slice none 0 0], .int .i64 0, .int .i64 er5]) (by simp [results, Tryz.results47, go_sem, y0, y1, hlt]) rfl (by rw [EF]; exact ⟨HBw.out, _, er5, rfl, ⟨_, rfl, RowO.nil_ _ _ _ _ _⟩, HER.out⟩)
  obtain rfl := h0.2 he;obtain ⟨rfl, hi1, hi2⟩ := h3 he;have KP := η fun W => KPk.out rd.i W ⟨hi1, hi2⟩
  have HHE := η he;clear hB h0 h1 h2 h3 he;cases hp : peekT s rd.i 1 with
  | false =>
   have HE : Hid (PR = (acc, rd)) := by
    show _ = _
    rw [HS.out];cases gk with
    | zero => rw [jT, κp]
    | succ g => rw [jT, if_neg (by simp [goOn, hp]), κp]
   rw [hp] at KP;clear HS HME hp;go_wp2_with fail;refine (KP.out _).mono ?_;rintro e w2 ⟨rfl, hb⟩;have HX3 := η (HX2.out.up hb hz20);have HR3 := η (HR2.out.up hb hlt);have HROW3 := η (HROW2.out.below LnE.own hb);have HB3 := η (HB2.out.trans (hb.mono (κl hz20)));have hz3 := νl hz2 hb.size;clear hb HROW2 HX2 HR2 HB2 hz2 hz20 hlt p0 p1 p2 o0 o1 o2;have HX2 := HX3;have HR2 := HR3;have HB2 := HB3;have HROW2 := HROW3;have hz2 := hz3;have hz20 : w < w2.heap.size := by omega
   clear HX3 HR3 HB3 HROW3 hz3;obtain ⟨A, c, rfl, hcap⟩ : ∃ A c, v = .slice A acc.length c ∧ acc.length ≤ c := by obtain ⟨_, _, _, _, ho⟩ := HROW2.out; exact zR ho
   go_wp2_with fail;refine (KT.out 2 _ _ (by decide) HR2.out).mono ?_;rintro e w5 ⟨k', t9, ng, A9, l9, c9, ng', A', l', c', rfl, _, hR, hg⟩;have HX5 := η (HX2.out.grown hg (by omega) (by omega));have HB5 := η (zD HB2.out hg (by omega) (by omega));have HROW5 := η (HROW2.out.grown LnE.own hg (by omega));have hz1 : w + 1 < w5.heap.size := νl hz2 hg.size;have hz0 : w < w5.heap.size := by omega
   have E := η (ENET.out.trans (by rw [HE.out]));clear ENET HE;generalize rTok s 2 rd = rd5 at *;have HR5 := η hR;clear hR hg HX2 HB2 HROW2 HR2 hz2;obtain ⟨i', er5, hB5, k0, k1, k2, k3⟩ := HR5.out.er;have HRB := η hB5;clear hB5;obtain ⟨q0, s0, q1, s1⟩ := sqX2 HX5.out;obtain ⟨u0, v0, u1, v1, u2, v2⟩ := sqX3 HRB.out;by_cases he5 : rd5.e = 0
   ·obtain rfl : er5 = 0 := k0.2 he5;have hp' := (k3 he5).1;subst hp';have HE5 := η he5;clear k0 k1 k2 k3 he5;obtain ⟨A', c', hv, hc, hr⟩ := HROW5.out.read (E' := LnE) (fun _ _ h => h);injection hv with hv1 hv2 hv3
    subst hv1 hv3;have KC := η (yA n3 A c acc w5 hr.lines);clear hr hc;go_wp2_with fail;refine KC.out.mono ?_;rintro e w6 ⟨rfl, hb6⟩;have HX6 := η (HX5.out.up hb6 hz0);have HB6 := η (HB5.out.trans (hb6.mono (κl hz0)));have HROW6 := η (HROW5.out.below LnE.own hb6);have HRB6 := η (HRB.out.up hb6 hz1);have hz61 : w + 1 < w6.heap.size := νl hz1 hb6.size;clear q0 q1 s0 s1 u0 u1 u2 v0 v1 v2 HX5 HB5 HROW5 HRB HR5 KC hb6 hz0 hz1;have hne := η (gA n3 acc);have EE := η (EP.out.trans (by rw [E.out]));clear EP E;generalize hck : zX n3 acc = ck at *;have HCK := η hck;clear hck;have HX7 := η (HX6.out.other (p := ⟨w + 1, 2, none⟩) (show w + 1 ≠ w.heap.size by omega) (.int .i64 ck));have HB7 := η (HB6.out.setCell (p := ⟨w + 1, 2, none⟩) (show w ≤ w.heap.size + 1 by omega) (.int .i64 ck));have HROW7 := η (HROW6.out.set LnE.own (g := w + 1) (by omega) [.int .i64 ck] 2);have HRB7 := η (HRB6.out.set1 2 (by simp) (.int .i64 ck));obtain ⟨u0, v0, u1, v1, u2, v2⟩ := sqX3 HRB6.out;have hz1 : w + 1 < (w6.setCell ⟨w + 1, 2, none⟩ (.int .i64 ck)).heap.size := by simpa using hz61
    have hz0 : w < (w6.setCell ⟨w + 1, 2, none⟩ (.int .i64 ck)).heap.size := by omega
    have HRB8 : Hid (Box (w6.setCell ⟨w + 1, 2, none⟩ (.int .i64 ck)) (w + 1) [.string (bstr s), .int .i64 rd5.i, .int .i64 ck]) := HRB7.out;have HROW8 : Hid (RowO LnE 127 4 (w6.setCell ⟨w + 1, 2, none⟩ (.int .i64 ck)) (w + 2) (.slice A acc.length c) acc) := HROW7.out;clear HX6 HB6 HROW6 HRB6 HRB7 HROW7 hz61;obtain ⟨q0, s0, q1, s1⟩ := sqX2 HX7.out;obtain ⟨y0, z0, y1, z1, y2, z2⟩ := sqX3 HRB8.out;by_cases hk : ck = 0
    ·subst hk;have EF : RP = (0, ⟨n3, acc⟩, rd5.i) := by rw [EE.out]; simp only [fin, HE5.out, HCK.out]; rfl
     go_wp2_with fail;clear q0 q1 s0 s1 u0 u1 u2 v0 v1 v2 y0 y1 y2 z0 z1 z2;generalize w6.setCell ⟨w + 1, 2, none⟩ (.int .i64 0) = w7 at *;refine zL (X := Unit) (w0 := w7) [5] (fun jq => [0, 0, 0, 0, 0, 1, 1, 1].getD jq 0) (fun jq => [0, 1, 1, 1, 1, 0, 1, 1].getD jq 0) (fun _ => [(4, .pointer (some ⟨w, 0, none⟩)), (7, .pointer (some ⟨w + 1, 0, none⟩)), (61, .agg #[.int .i64 n3, .slice A acc.length c]), (62, .pointer (some ⟨w + 1, 0, none⟩)), (63, .pointer (some ⟨w + 1, 0, none⟩)), (64, .pointer (some ⟨w + 1, 1, none⟩)), (65, .int .i64 rd5.i), (5, .int .i64 rd5.i), (6, .int .i64 0)]) (fun _ => []) [4, 7] (fun t _ W => match t with | 0 => Below w7 w7 W | _ => ∃ W0, Below w7 w7 W0 ∧ W = W0.setCells w 0 [.int .i64 n3, .slice A acc.length c]) () (Below.refl _ _).drew ?_ ?_ ?_
     ·intro T x t W hT hI htl;simp only [zA, and_true] at hT;rcases t with _ | _ | t
      ·skip
       replace hI : Below w7 w7 W := hI;have hsz := hI.size;have hlt : w < W.heap.size := by omega
       have c0 := (HX7.out.up hI hz0).c 0 _ rfl;have g0 := (HX7.out.up hI hz0).f 0 (by simp);have c1 := (HX7.out.up hI hz0).c 1 _ rfl;have g1 := (HX7.out.up hI hz0).f 1 (by simp);have c1z4 := (HRB8.out.up hI hz1).c 1 _ rfl;have g1z4 : w + 1 < W.heap.size := νl hz1 hI.size
       repeat' first | exact AllI.nil | apply AllI.cons
       all_goals intro hn hl hu
       all_goals first | exact absurd hn (by decide) | exact absurd hl (by decide) | exact absurd hu (by decide) | (refine rdT ?_; simp [go_sem, EvT, hT, c0, g0, c1, g1, hlt, c1z4, g1z4, valT])
      ·skip
       obtain ⟨W0, hI0, rfl⟩ : ∃ W0, Below w7 w7 W0 ∧ W = W0.setCells w 0 [.int .i64 n3, .slice A acc.length c] := hI;have c1 := ((HRB8.out.up hI0 hz1).others (b' := w) (by omega) 0 [.int .i64 n3, .slice A acc.length c]).c 1 _ rfl;have g1 : w + 1 < (W0.setCells w 0 [.int .i64 n3, .slice A acc.length c]).heap.size := by rw [zG]; exact νl hz1 hI0.size
       generalize W0.setCells w 0 [.int .i64 n3, .slice A acc.length c] = W0 at *;have hI := hI0
       repeat' first | exact AllI.nil | apply AllI.cons
       all_goals intro hn hl hu
       all_goals first | exact absurd hn (by decide) | exact absurd hl (by decide) | exact absurd hu (by decide) | (refine rdT ?_; simp [go_sem, EvT, hT, c1, g1, valT])
      ·exact absurd htl (by simp)
     ·intro T k x W o hk ho hT hI;simp only [zA, and_true] at hT;rcases k with _ | k
      ·cases ho;replace hI : Below w7 w7 W := hI;have hsz := hI.size;have hlt : w < W.heap.size := by omega
       have c0 := (HX7.out.up hI hz0).c 0 _ rfl;have g0 := (HX7.out.up hI hz0).f 0 (by simp);have c1 := (HX7.out.up hI hz0).c 1 _ rfl;have g1 := (HX7.out.up hI hz0).f 1 (by simp);refine chT_s (W' := ((W.setCell ⟨w, 0, none⟩ (.int .i64 n3)).setCell ⟨w, 1, none⟩ (.slice A acc.length c))) ?_ (⟨W, hI, rfl⟩);clear hI;simp [go_sem, EvT, hT, c0, g0, c1, g1, hlt]
      ·exact absurd hk (by simp)
     intro x wx hI;simp (decide := true) only [putT, valT, look, Act.put, σi, σo, σs, Nat.reduceAdd, if_true, if_false];replace hI : (fun t _ W => match t with | 0 => Below w7 w7 W | _ => ∃ W0, Below w7 w7 W0 ∧ W = W0.setCells w 0 [.int .i64 n3, .slice A acc.length c]) 1 x wx := hI
     (try dsimp only at hI)
     obtain ⟨W0, hb0, rfl⟩ : ∃ W0, Below w7 w7 W0 ∧ wx = W0.setCells w 0 [.int .i64 n3, .slice A acc.length c] := hI;have HXw := η ((HX7.out.up hb0 hz0).sets (vs' := [.int .i64 n3, .slice A acc.length c]) rfl);have HBw := η (zI (HB7.out.trans (hb0.mono (κl hz0))) (νr w) [.int .i64 n3, .slice A acc.length c] 0);have HROW8w := η ((HROW8.out.below LnE.own hb0).set LnE.own (g := w) (by omega) [.int .i64 n3, .slice A acc.length c] 0);have hlt : w < (W0.setCells w 0 [.int .i64 n3, .slice A acc.length c]).heap.size := by rw [zG]; exact νl hz0 hb0.size
     generalize W0.setCells w 0 [.int .i64 n3, .slice A acc.length c] = wz at *;clear hb0;obtain ⟨y0, z0, y1, z1⟩ := sqX2 HXw.out;go_wp2_with fail;exact κr (v := .tuple #[.agg #[.int .i64 n3, .slice A acc.length c], .int .i64 rd5.i, .int .i64 0]) (by simp [results, Tryz.results47, go_sem, y0, y1, hlt]) rfl (by rw [EF]; exact ⟨HBw.out, _, 0, rfl, ⟨_, rfl, HROW8w.out.mono LnE.own (by omega)⟩, .inl ⟨show (0 : Int) ≠ -1 by decide, rfl⟩⟩)
    ·have e1 : (ck == 0) = false := βf hk;have e2 : (ck != 0) = true := βt hk;have EF : RP = (ck, nt0, 0) := by rw [EE.out]; simp only [fin, HE5.out, HCK.out]; rw [if_neg (by simp), if_pos hk]
     go_wp2_with fail;clear q0 q1 s0 s1 u0 u1 u2 v0 v1 v2 y0 y1 y2 z0 z1 z2;generalize w6.setCell ⟨w + 1, 2, none⟩ (.int .i64 ck) = w7 at *;refine zL (X := Unit) (w0 := w7) [5] (fun jq => [0, 0, 0, 0, 0, 1, 1, 1].getD jq 0) (fun jq => [0, 1, 1, 1, 1, 0, 1, 1].getD jq 0) (fun _ => [(7, .pointer (some ⟨w + 1, 0, none⟩)), (4, .pointer (some ⟨w, 0, none⟩)), (56, .agg #[.int .i64 0, .slice none 0 0]), (57, .pointer (some ⟨w + 1, 0, none⟩)), (58, .pointer (some ⟨w + 1, 0, none⟩)), (59, .pointer (some ⟨w + 1, 2, none⟩)), (60, .int .i64 ck), (5, .int .i64 0), (6, .int .i64 ck)]) (fun _ => []) [7, 4] (fun t _ W => match t with | 0 => Below w7 w7 W | _ => ∃ W0, Below w7 w7 W0 ∧ W = W0.setCells w 0 [.int .i64 0, .slice none 0 0]) () (Below.refl _ _).drew ?_ ?_ ?_
     ·intro T x t W hT hI htl;simp only [zA, and_true] at hT;rcases t with _ | _ | t
      ·skip
       replace hI : Below w7 w7 W := hI;have c2 := (HRB8.out.up hI hz1).c 2 _ rfl;have g2 : w + 1 < W.heap.size := νl hz1 hI.size
       repeat' first | exact AllI.nil | apply AllI.cons
       all_goals intro hn hl hu
       all_goals first | exact absurd hn (by decide) | exact absurd hl (by decide) | exact absurd hu (by decide) | (refine rdT ?_; simp [go_sem, EvT, hT, c2, g2, valT])
      ·skip
       obtain ⟨W0, hI0, rfl⟩ : ∃ W0, Below w7 w7 W0 ∧ W = W0.setCells w 0 [.int .i64 0, .slice none 0 0] := hI;have c2 := ((HRB8.out.up hI0 hz1).others (b' := w) (by omega) 0 [.int .i64 0, .slice none 0 0]).c 2 _ rfl;have g2 : w + 1 < (W0.setCells w 0 [.int .i64 0, .slice none 0 0]).heap.size := by rw [zG]; exact νl hz1 hI0.size
       generalize W0.setCells w 0 [.int .i64 0, .slice none 0 0] = W0 at *;have hI := hI0
       repeat' first | exact AllI.nil | apply AllI.cons
       all_goals intro hn hl hu
       all_goals first | exact absurd hn (by decide) | exact absurd hl (by decide) | exact absurd hu (by decide) | (refine rdT ?_; simp [go_sem, EvT, hT, c2, g2, valT])
      ·exact absurd htl (by simp)
     ·intro T k x W o hk ho hT hI;simp only [zA, and_true] at hT;rcases k with _ | k
      ·cases ho;replace hI : Below w7 w7 W := hI;have hsz := hI.size;have hlt : w < W.heap.size := by omega
       have c0 := (HX7.out.up hI hz0).c 0 _ rfl;have g0 := (HX7.out.up hI hz0).f 0 (by simp);have c1 := (HX7.out.up hI hz0).c 1 _ rfl;have g1 := (HX7.out.up hI hz0).f 1 (by simp);refine chT_s (W' := ((W.setCell ⟨w, 0, none⟩ (.int .i64 0)).setCell ⟨w, 1, none⟩ (.slice none 0 0))) ?_ (⟨W, hI, rfl⟩);clear hI;simp [go_sem, EvT, hT, c0, g0, c1, g1, hlt]
      ·exact absurd hk (by simp)
     intro x wx hI;simp (decide := true) only [putT, valT, look, Act.put, σi, σo, σs, Nat.reduceAdd, if_true, if_false];replace hI : (fun t _ W => match t with | 0 => Below w7 w7 W | _ => ∃ W0, Below w7 w7 W0 ∧ W = W0.setCells w 0 [.int .i64 0, .slice none 0 0]) 1 x wx := hI
     (try dsimp only at hI)
     obtain ⟨W0, hb0, rfl⟩ : ∃ W0, Below w7 w7 W0 ∧ wx = W0.setCells w 0 [.int .i64 0, .slice none 0 0] := hI;have HXw := η ((HX7.out.up hb0 hz0).sets (vs' := [.int .i64 0, .slice none 0 0]) rfl);have HBw := η (zI (HB7.out.trans (hb0.mono (κl hz0))) (νr w) [.int .i64 0, .slice none 0 0] 0);have hlt : w < (W0.setCells w 0 [.int .i64 0, .slice none 0 0]).heap.size := by rw [zG]; exact νl hz0 hb0.size
     generalize W0.setCells w 0 [.int .i64 0, .slice none 0 0] = wz at *;clear hb0;obtain ⟨y0, z0, y1, z1⟩ := sqX2 HXw.out;go_wp2_with fail;exact κr (v := .tuple #[.agg #[.int .i64 0, .slice none 0 0], .int .i64 0, .int .i64 ck]) (by simp [results, Tryz.results47, go_sem, y0, y1, hlt]) rfl (by rw [EF]; exact ⟨HBw.out, _, ck, rfl, ⟨_, rfl, RowO.nil_ _ _ _ _ _⟩, .inl ⟨hne.out, rfl⟩⟩)
   ·have EF : RP = (rd5.e, nt0, 0) := by rw [EP.out, E.out]; simp only [fin]; rw [if_pos he5]
    have hne : er5 ≠ 0 := fun h => he5 (k0.1 h)
    have e1 : (er5 == 0) = false := βf hne;have e2 : (er5 != 0) = true := βt hne;have HER : Hid (ErR rd5.e er5) := by show ErR _ _; by_cases h : rd5.e = -1; exact .inr ⟨h, k2 h⟩; exact .inl ⟨h, k1 h⟩
    clear k0 k1 k2 k3 he5 hne;go_wp2_with fail;clear q0 q1 s0 s1 u0 u1 u2 v0 v1 v2;refine zL (X := Unit) (w0 := w5) [5] (fun jq => [0, 0, 0, 0, 0, 1, 1, 1].getD jq 0) (fun jq => [0, 1, 1, 1, 1, 0, 1, 1].getD jq 0) (fun _ => [(7, .pointer (some ⟨w + 1, 0, none⟩)), (4, .pointer (some ⟨w, 0, none⟩)), (56, .agg #[.int .i64 0, .slice none 0 0]), (57, .pointer (some ⟨w + 1, 0, none⟩)), (58, .pointer (some ⟨w + 1, 0, none⟩)), (59, .pointer (some ⟨w + 1, 2, none⟩)), (60, .int .i64 er5), (5, .int .i64 0), (6, .int .i64 er5)]) (fun _ => []) [7, 4] (fun t _ W => match t with | 0 => Below w5 w5 W | _ => ∃ W0, Below w5 w5 W0 ∧ W = W0.setCells w 0 [.int .i64 0, .slice none 0 0]) () (Below.refl _ _).drew ?_ ?_ ?_
    ·intro T x t W hT hI htl;simp only [zA, and_true] at hT;rcases t with _ | _ | t
     ·skip
      replace hI : Below w5 w5 W := hI;have c2 := (HRB.out.up hI hz1).c 2 _ rfl;have g2 : w + 1 < W.heap.size := νl hz1 hI.size
      repeat' first | exact AllI.nil | apply AllI.cons
      all_goals intro hn hl hu
      all_goals first | exact absurd hn (by decide) | exact absurd hl (by decide) | exact absurd hu (by decide) | (refine rdT ?_; simp [go_sem, EvT, hT, c2, g2, valT])
     ·skip
      obtain ⟨W0, hI0, rfl⟩ : ∃ W0, Below w5 w5 W0 ∧ W = W0.setCells w 0 [.int .i64 0, .slice none 0 0] := hI;have c2 := ((HRB.out.up hI0 hz1).others (b' := w) (by omega) 0 [.int .i64 0, .slice none 0 0]).c 2 _ rfl;have g2 : w + 1 < (W0.setCells w 0 [.int .i64 0, .slice none 0 0]).heap.size := by rw [zG]; exact νl hz1 hI0.size
      generalize W0.setCells w 0 [.int .i64 0, .slice none 0 0] = W0 at *;have hI := hI0
      repeat' first | exact AllI.nil | apply AllI.cons
      all_goals intro hn hl hu
      all_goals first | exact absurd hn (by decide) | exact absurd hl (by decide) | exact absurd hu (by decide) | (refine rdT ?_; simp [go_sem, EvT, hT, c2, g2, valT])
     ·exact absurd htl (by simp)
    ·intro T k x W o hk ho hT hI;simp only [zA, and_true] at hT;rcases k with _ | k
     ·cases ho;replace hI : Below w5 w5 W := hI;have hsz := hI.size;have hlt : w < W.heap.size := by omega
      have c0 := (HX5.out.up hI hz0).c 0 _ rfl;have g0 := (HX5.out.up hI hz0).f 0 (by simp);have c1 := (HX5.out.up hI hz0).c 1 _ rfl;have g1 := (HX5.out.up hI hz0).f 1 (by simp);refine chT_s (W' := ((W.setCell ⟨w, 0, none⟩ (.int .i64 0)).setCell ⟨w, 1, none⟩ (.slice none 0 0))) ?_ (⟨W, hI, rfl⟩);clear hI;simp [go_sem, EvT, hT, c0, g0, c1, g1, hlt]
     ·exact absurd hk (by simp)
    intro x wx hI;simp (decide := true) only [putT, valT, look, Act.put, σi, σo, σs, Nat.reduceAdd, if_true, if_false];replace hI : (fun t _ W => match t with | 0 => Below w5 w5 W | _ => ∃ W0, Below w5 w5 W0 ∧ W = W0.setCells w 0 [.int .i64 0, .slice none 0 0]) 1 x wx := hI
    (try dsimp only at hI)
    obtain ⟨W0, hb0, rfl⟩ : ∃ W0, Below w5 w5 W0 ∧ wx = W0.setCells w 0 [.int .i64 0, .slice none 0 0] := hI;have HXw := η ((HX5.out.up hb0 hz0).sets (vs' := [.int .i64 0, .slice none 0 0]) rfl);have HBw := η (zI (HB5.out.trans (hb0.mono (κl hz0))) (νr w) [.int .i64 0, .slice none 0 0] 0);have hlt : w < (W0.setCells w 0 [.int .i64 0, .slice none 0 0]).heap.size := by rw [zG]; exact νl hz0 hb0.size
    generalize W0.setCells w 0 [.int .i64 0, .slice none 0 0] = wz at *;clear hb0;obtain ⟨y0, z0, y1, z1⟩ := sqX2 HXw.out;go_wp2_with fail;exact κr (v := .tuple #[.agg #[.int .i64 0, .slice none 0 0], .int .i64 0, .int .i64 er5]) (by simp [results, Tryz.results47, go_sem, y0, y1, hlt]) rfl (by rw [EF]; exact ⟨HBw.out, _, er5, rfl, ⟨_, rfl, RowO.nil_ _ _ _ _ _⟩, HER.out⟩)
  | true =>
   have hgo : goOn s rd = true := by simp [goOn, hp, HHE.out]
   cases gk with
   | zero =>
    have h1 := HME.out hgo;have h2 := qH hgo;omega
   | succ g =>
    have hm1 := HME.out hgo;have HADV := η (eG s rd);have HSP : Hid (jT s (g + 1) rd = ((lineR s rd).1 :: (jT s g (lineR s rd).2).1, (jT s g (lineR s rd).2).2)) := by
     show _ = _
     rw [jT, if_pos hgo]
    have KLN := η fun W hR => KL.out rd W hR
    rw [hp] at KP;generalize lineR s rd = sp at *;obtain ⟨⟨m1, m2, m3, m4⟩, rd'⟩ := sp;have HM1 := η hm1;clear hp hgo HME hm1;go_wp2_with fail;refine (KP.out _).mono ?_;rintro e w2 ⟨rfl, hb⟩;have HX3 := η (HX2.out.up hb hz20);have HR3 := η (HR2.out.up hb hlt);have HROW3 := η (HROW2.out.below LnE.own hb);have HB3 := η (HB2.out.trans (hb.mono (κl hz20)));have hz3 := νl hz2 hb.size;clear hb HROW2 HX2 HR2 HB2 hz2 hz20 hlt p0 p1 p2 o0 o1 o2;have HX2 := HX3;have HR2 := HR3;have HB2 := HB3;have HROW2 := HROW3;have hz2 := hz3;have hz20 : w < w2.heap.size := by omega
    clear HX3 HR3 HB3 HROW3 hz3;go_wp2_with fail;refine xF (X := Nat × Value) (w0 := w2) [3, 4, 5, 7] (fun jq => [0, 0, 0, 1, 2, 3, 3, 4].getD jq 0) (fun jq => [2, 2, 0, 0, 1, 2, 3, 3].getD jq 0) (fun _ x jq => (match jq with | 0 => .pointer (some ⟨w, 1, none⟩) | 1 => v | 2 => .pointer (some ⟨w + 1, 0, none⟩) | 3 => .agg #[.int .i64 m1, .int .i64 m2, .int .i64 m3, .int .i64 m4] | 4 => .slice (some ⟨x.1, 0, none⟩) 1 1 | 5 => x.2 | 6 => .pointer (some ⟨w, 1, none⟩) | 7 => undef | _ => undef)) (fun t x W => match t with | 0 => Below w2 w2 W | 1 => RdR W (w + 1) s rd' ∧ w2.grownBy W (some (w + 1)) | 2 => ∃ W1, RdR W1 (w + 1) s rd' ∧ w2.grownBy W1 (some (w + 1)) ∧ W = W1.alloc (.cells #[.int .i64 m1, .int .i64 m2, .int .i64 m3, .int .i64 m4] 127) ∧ x.1 = W1.heap.size | 3 => RowO LnE 127 4 W (w + 2) x.2 (acc ++ [(m1, m2, m3, m4)]) ∧ Box W w [.int .i64 n3, v] ∧ RdR W (w + 1) s rd' ∧ Below w w W ∧ w + 1 < W.heap.size | _ => RowO LnE 127 4 W (w + 2) x.2 (acc ++ [(m1, m2, m3, m4)]) ∧ Box W w [.int .i64 n3, x.2] ∧ RdR W (w + 1) s rd' ∧ Below w w W ∧ w + 1 < W.heap.size) (0, undef) (by kernel_rfl) (by kernel_rfl) (by kernel_rfl) (Below.refl _ _).drew ?_ ?_ ?_
    ·intro iq oq ho hnc aq W t x hI htl hcl hub hdep hrest hgd;have hdep := @sqD _ _ _ hdep;have hgd := @sqG _ _ _ _ hgd;rcases iq with _|_|_|_|_|_|_|_|iq
     ·cases ho;refine sqJ ?_;simp [go_sem, hrest 4 (by kernel_rfl)]
     ·cases ho;clear hrest;have d0 : aq.eval (.tmp 32) = .pointer (some ⟨w, 1, none⟩) := hdep ⟨0, .data⟩;clear hdep hgd;refine sqJ ?_;have ht : t = 0 ∨ t = 1 ∨ t = 2 := by have h1 : 0 ≤ t := hcl; have h2 : t ≤ 2 := hub; omega
      clear hcl hub;rcases ht with rfl | rfl | rfl
      ·skip
       replace hI : Below w2 w2 W := hI;have c1 := (HX2.out.up hI hz20).c 1 _ rfl;have hlz : w < W.heap.size := νl hz20 hI.size;clear hI htl;generalize aq.eval = ρ at *;simp [go_sem, d0, c1, hlz]
      ·skip
       replace hI : RdR W (w + 1) s rd' ∧ w2.grownBy W (some (w + 1)) := hI;have c1 := (HX2.out.grown hI.2 (by omega) hz20).c 1 _ rfl;have hlz : w < W.heap.size := νl hz20 hI.2.size;clear hI htl;generalize aq.eval = ρ at *;simp [go_sem, d0, c1, hlz]
      ·skip
       obtain ⟨W1, hI1, hI2, rfl, hI3⟩ : ∃ W1, RdR W1 (w + 1) s rd' ∧ w2.grownBy W1 (some (w + 1)) ∧ W = W1.alloc (.cells #[.int .i64 m1, .int .i64 m2, .int .i64 m3, .int .i64 m4] 127) ∧ x.1 = W1.heap.size := hI;have hlz1 : w < W1.heap.size := νl hz20 hI2.size;have c1 := ((HX2.out.grown hI2 (by omega) hz20).alloc hlz1 (.cells #[.int .i64 m1, .int .i64 m2, .int .i64 m3, .int .i64 m4] 127)).c 1 _ rfl;have hlz : w < (W1.alloc (.cells #[.int .i64 m1, .int .i64 m2, .int .i64 m3, .int .i64 m4] 127)).heap.size := by simp; omega
       generalize W1.alloc (.cells #[.int .i64 m1, .int .i64 m2, .int .i64 m3, .int .i64 m4] 127) = W2 at *;have hI := hI1;clear hI htl;generalize aq.eval = ρ at *;simp [go_sem, d0, c1, hlz]
     ·cases ho;refine sqJ ?_;simp [go_sem, hrest 7 (by kernel_rfl)]
     ·exact absurd rfl (hnc 0 (by decide))
     ·exact absurd rfl (hnc 1 (by decide))
     ·exact absurd rfl (hnc 2 (by decide))
     ·cases ho;refine sqJ ?_;simp [go_sem, hrest 4 (by kernel_rfl)]
     ·exact absurd rfl (hnc 3 (by decide))
     ·simp at ho
    ·intro k oq hk ho aq W x hI hdep hrest;have hc := sqC aq;have hfn := sqF aq;rcases k with _ | _ | _ | _ | k
     ·cases ho;clear hrest;have d2 : aq.eval (.tmp 34) = .pointer (some ⟨w + 1, 0, none⟩) := hdep ⟨2, .data⟩ (by simp) rfl _ _ rfl rfl;clear hdep;replace hI : Below w2 w2 W := hI;refine ⟨by simp [Region.wanted], fun K Q hK => ?_⟩;refine jJ (f := 106) (args := #[.pointer (some ⟨w + 1, 0, none⟩)]) (w' := W) (R := fun v w' => v = (.agg #[.int .i64 m1, .int .i64 m2, .int .i64 m3, .int .i64 m4]) ∧ (fun t x W => match t with | 0 => Below w2 w2 W | 1 => RdR W (w + 1) s rd' ∧ w2.grownBy W (some (w + 1)) | 2 => ∃ W1, RdR W1 (w + 1) s rd' ∧ w2.grownBy W1 (some (w + 1)) ∧ W = W1.alloc (.cells #[.int .i64 m1, .int .i64 m2, .int .i64 m3, .int .i64 m4] 127) ∧ x.1 = W1.heap.size | 3 => RowO LnE 127 4 W (w + 2) x.2 (acc ++ [(m1, m2, m3, m4)]) ∧ Box W w [.int .i64 n3, v] ∧ RdR W (w + 1) s rd' ∧ Below w w W ∧ w + 1 < W.heap.size | _ => RowO LnE 127 4 W (w + 2) x.2 (acc ++ [(m1, m2, m3, m4)]) ∧ Box W w [.int .i64 n3, x.2] ∧ RdR W (w + 1) s rd' ∧ Below w w W ∧ w + 1 < W.heap.size) 1 x w') ?_ ((KLN.out W (HR2.out.up hI hz2)).mono fun e w' ⟨he, hR', hg'⟩ => ⟨_, he, rfl, hR', zB (zJ (b := (w + 1)) hI) hg'⟩) ?_
      ·clear hI hK;generalize aq.eval = ρ at *;simp [go_sem, d2, hfn]
      ·rintro v w' ⟨rfl, hinv⟩;exact hK _ _ x hinv (fun d h => rfl) (fun j hj hc => by rcases j with _ | _ | _ | _ | _ | _ | _ | _ | j <;> first | rfl | exact absurd hc (by decide))
     ·cases ho;clear hrest;have d3 : aq.eval (.tmp 35) = .agg #[.int .i64 m1, .int .i64 m2, .int .i64 m3, .int .i64 m4] := hdep ⟨3, .data⟩ (by simp) rfl _ _ rfl rfl;clear hdep;replace hI : RdR W (w + 1) s rd' ∧ w2.grownBy W (some (w + 1)) := hI;refine ⟨by simp [Region.wanted], fun K Q hK => ?_⟩;refine jD (v := .slice (some ⟨W, 0, none⟩) 1 1) (w' := W.alloc (.cells #[.int .i64 m1, .int .i64 m2, .int .i64 m3, .int .i64 m4] 127)) ?_ (hK _ _ (W, x.2) ⟨W, hI.1, hI.2, rfl, rfl⟩ (fun d h => rfl) (fun j hj hc => by rcases j with _ | _ | _ | _ | _ | _ | _ | _ | j <;> first | rfl | exact absurd hc (by decide)));clear hI hK;generalize aq.eval = ρ at *;simp [go_sem, d3]
     ·cases ho;clear hrest;have d1 : aq.eval (.tmp 33) = v := hdep ⟨1, .data⟩ (by simp) rfl _ _ rfl rfl;have d4 : aq.eval (.tmp 36) = .slice (some ⟨x.1, 0, none⟩) 1 1 := hdep ⟨4, .data⟩ (by simp) rfl _ _ rfl rfl;clear hdep;refine ⟨by simp [Region.wanted], fun K Q hK => ?_⟩;obtain ⟨W1, hI1, hI2, rfl, hI3⟩ : ∃ W1, RdR W1 (w + 1) s rd' ∧ w2.grownBy W1 (some (w + 1)) ∧ W = W1.alloc (.cells #[.int .i64 m1, .int .i64 m2, .int .i64 m3, .int .i64 m4] 127) ∧ x.1 = W1.heap.size := hI;have hz1' : w + 1 < W1.heap.size := νl hz2 hI2.size;have HROW1 := HROW2.out.grown LnE.own hI2 (by omega);have hHX := (HX2.out.grown hI2 (by omega) hz20);have hHB := (zD HB2.out hI2 (by omega) (by omega));obtain ⟨raws, g1, g2, g3, hown⟩ := id HROW1;have hsrc : Src (W1.alloc (.cells #[.int .i64 m1, .int .i64 m2, .int .i64 m3, .int .i64 m4] 127)) 4 (some ⟨W1, 0, none⟩) 1 [.int .i64 m1, .int .i64 m2, .int .i64 m3, .int .i64 m4] := ⟨rfl, fun _ => ⟨_, rfl, zZ W1 #[.int .i64 m1, .int .i64 m2, .int .i64 m3, .int .i64 m4] 127⟩⟩;refine kI _ (.tmp 33) (.tmp 36) _ rfl (w + 2) 127 i0 _ 4 32 Tryz.underlying22 hi0 hy0 hy1 hy2 rfl (by decide) v acc.length _ d1 (hown.alloc _) (some ⟨W1, 0, none⟩) 1 1 [.int .i64 m1, .int .i64 m2, .int .i64 m3, .int .i64 m4] (by rw [← hI3]; exact d4) hsrc (by simp [Value.oneCell']) (by unfold maxLen fuel at *; omega) (by unfold fuel at *; omega) (by simp; omega) ?_;intro v' W' hown' hgrow _;have hbel := zH hown (show w + 2 ≤ W1.heap.size by omega) hgrow;refine hK _ _ (x.1, v') ⟨HROW1.more (c := [.int .i64 m1, .int .i64 m2, .int .i64 m3, .int .i64 m4]) (x := (m1, m2, m3, m4)) LnE.own (by simp) rfl rfl (by have := hgrow.size; simp at this ⊢; omega) hgrow (fun xs hx => by rw [qU hx hown]; exact hown'), hHX.up hbel (by omega), hI1.up hbel (by omega), hHB.trans (hbel.mono (by omega)), by have := hbel.size; omega⟩ (fun d h => rfl) (fun j hj hc => by rcases j with _ | _ | _ | _ | _ | _ | _ | _ | j <;> first | rfl | exact absurd hc (by decide))
     ·cases ho;clear hrest;have d6 : aq.eval (.tmp 38) = .pointer (some ⟨w, 1, none⟩) := hdep ⟨6, .data⟩ (by simp) rfl _ _ rfl rfl;have d5 : aq.eval (.tmp 37) = x.2 := hdep ⟨5, .data⟩ (by simp) rfl _ _ rfl rfl;clear hdep;refine ⟨by simp [Region.wanted], fun K Q hK => ?_⟩;obtain ⟨h1, h2, h3, h4, h5⟩ : RowO LnE 127 4 W (w + 2) x.2 (acc ++ [(m1, m2, m3, m4)]) ∧ Box W w [.int .i64 n3, v] ∧ RdR W (w + 1) s rd' ∧ Below w w W ∧ w + 1 < W.heap.size := hI;have c1 := h2.c 1 _ rfl;have f1 := h2.f 1 (by simp);have hlz : w < W.heap.size := by omega
      refine jW (w' := (W.setCell ⟨w, 1, none⟩ x.2)) ?_ (hK _ _ x ⟨h1.set LnE.own (g := w) (by omega) [x.2] 1, h2.set1 1 (by simp) x.2, h3.set (p := ⟨w, 1, none⟩) (show w ≠ w.heap.size + 1 by omega) _, h4.setCell (p := ⟨w, 1, none⟩) (νr _) _, by simpa using h5⟩ (fun d h => by cases h) (fun j hj hc => by rcases j with _ | _ | _ | _ | _ | _ | _ | _ | j <;> first | rfl | exact absurd hc (by decide)));obtain ⟨A9, c9, hv9, _⟩ : ∃ A c, x.2 = .slice A (acc ++ [(m1, m2, m3, m4)]).length c ∧ (acc ++ [(m1, m2, m3, m4)]).length ≤ c := by obtain ⟨_, _, _, _, ho⟩ := h1; exact zR ho
      clear h1 h2 h3 h4 h5 hK;generalize aq.eval = ρ at *;generalize x.2 = x2 at *;subst hv9;simp [go_sem, d6, d5, c1, f1, hlz]
     ·exact absurd hk (by simp)
    intro x wx hI;simp only [qE, Act.put, σi, σo, σs, Nat.reduceAdd];replace hI : (fun t x W => match t with | 0 => Below w2 w2 W | 1 => RdR W (w + 1) s rd' ∧ w2.grownBy W (some (w + 1)) | 2 => ∃ W1, RdR W1 (w + 1) s rd' ∧ w2.grownBy W1 (some (w + 1)) ∧ W = W1.alloc (.cells #[.int .i64 m1, .int .i64 m2, .int .i64 m3, .int .i64 m4] 127) ∧ x.1 = W1.heap.size | 3 => RowO LnE 127 4 W (w + 2) x.2 (acc ++ [(m1, m2, m3, m4)]) ∧ Box W w [.int .i64 n3, v] ∧ RdR W (w + 1) s rd' ∧ Below w w W ∧ w + 1 < W.heap.size | _ => RowO LnE 127 4 W (w + 2) x.2 (acc ++ [(m1, m2, m3, m4)]) ∧ Box W w [.int .i64 n3, x.2] ∧ RdR W (w + 1) s rd' ∧ Below w w W ∧ w + 1 < W.heap.size) 4 x wx := hI
    (try dsimp only at hI)
    obtain ⟨h1, h2, h3, h4, h5⟩ := hI;generalize x.2 = v' at *;go_wp2_with fail;go_roundg g
    case measure => omega
    case rel =>
     refine ⟨rd', acc ++ [(m1, m2, m3, m4)], v', h2, h1, h3, h4, h5, ?_, fun h => ?_, by rw [κa, List.length_singleton]; omega⟩
     ·rw [HS.out, HSP.out, κq]; rfl
     ·have h1 := HM1.out;have h2 := (HADV.out (qH h).1).2;simp at h1 h2;omega
end Go.Proofs.YtkfhpefmmhljmaaGreatDoor
