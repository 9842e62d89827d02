/- Texts in one: Sqz, CtR. -/
import Derived.Test.YtkfhpefmmhljmaaGreatDoorQ10
import Derived.Test.YtkfhpefmmhljmaaGreatDoorQ22
import Derived.Test.YtkfhpefmmhljmaaGreatDoorQ19
set_option linter.unusedVariables false
set_option linter.unusedSimpArgs false
set_option maxRecDepth 100000
/- Sqz -/
namespace Go.Proofs.YtkfhpefmmhljmaaGreatDoor
open Go.RowKit
theorem sqA {b : Bool} {P Q : Prop} (h : b = true) (p : P) : (b = true → P) ∧ (b = false → Q) := ⟨fun _ => p, fun k => absurd (h.symm.trans k) (by decide)⟩
theorem sqB {b : Bool} {P Q : Prop} (h : b = false) (q : Q) : (b = true → P) ∧ (b = false → Q) := ⟨fun k => absurd (h.symm.trans k) (by decide), fun _ => q⟩
theorem sqN (a b : Nat) {p : Prop} (h : a = b) (hd : Nat.beq a b = false := by rfl) : p := absurd h (Nat.ne_of_beq_eq_false hd)
theorem sqC (a : Act) : ∀ v, a.eval (.const v) = v := fun _ => rfl
theorem sqF (a : Act) : ∀ f, a.eval (.func f) = .func (.func f) #[] #[] := fun _ => rfl
theorem sqD {ops : Array Oper} {o : Oper} {Pr : Edge → Tmp → Prop} (h : ∀ e ∈ o.after, Region.binds .any e = true → ∀ (o' : Oper) (d : Tmp), ops[e.on]? = some o' → o'.dst = some d → Pr e d) :
  ∀ (e : Edge) {o' : Oper} {d : Tmp}, (_ : e ∈ o.after := by simp) → (_ : Region.binds .any e = true := by rfl) → (_ : ops[e.on]? = some o' := by rfl) → (_ : o'.dst = some d := by rfl) → Pr e d :=
 fun e _ _ h1 h2 h3 h4 => h e h1 h2 _ _ h3 h4
theorem sqG {ops : Array Oper} {o : Oper} {Pr : Tmp → Bool → Prop} {Qr : Bool → Bool → Prop} (h : ∀ (j : Nat) (want : Bool), o.guard = some (j, want) → ∀ (o' : Oper) (d : Tmp), ops[j]? = some o' → o'.dst = some d → ∀ b, Pr d b → Qr b want) :
  ∀ (j : Nat) (want : Bool) (b : Bool) {o' : Oper} {d : Tmp}, Pr d b → (_ : o.guard = some (j, want) := by rfl) → (_ : ops[j]? = some o' := by rfl) → (_ : o'.dst = some d := by rfl) → Qr b want :=
 fun j want b _ _ p h1 h2 h3 => h j want h1 _ _ h2 h3 b p
theorem sqE {ops : Array Oper} {o : Oper} {m : Nat} {Pr : Edge → Tmp → Prop} (h : ∀ e ∈ o.after, Region.binds .any e = true → e.on ≠ m → ∀ (o' : Oper) (d : Tmp), ops[e.on]? = some o' → o'.dst = some d → Pr e d) :
  ∀ (e : Edge) {o' : Oper} {d : Tmp}, e.on ≠ m → (_ : e ∈ o.after := by simp) → (_ : Region.binds .any e = true := by rfl) → (_ : ops[e.on]? = some o' := by rfl) → (_ : o'.dst = some d := by rfl) → Pr e d :=
 fun e _ _ hm h1 h2 h3 h4 => h e h1 h2 hm _ _ h3 h4
theorem sqM (a b : Nat) (hd : Nat.beq a b = false := by rfl) : a ≠ b := Nat.ne_of_beq_eq_false hd
theorem sqT (i n m q : Nat) {b : Bool} {A B C D Q : Prop} (d : D) (h1 : Nat.beq i n = false := by rfl) (h2 : Nat.beq i m = false := by rfl) (h3 : Nat.beq i q = false := by rfl) (hb : b = true := by rfl) :
  (b = true → (i = n → A) ∧ (i = m → B) ∧ (i = q → C) ∧ (i ≠ n → i ≠ m → i ≠ q → D)) ∧ (b = false → Q) :=
 ⟨fun _ => ⟨fun h => sqN i n h h1, fun h => sqN i m h h2, fun h => sqN i q h h3, fun _ _ _ => d⟩, fun k => absurd (hb.symm.trans k) (by decide)⟩
theorem sqI {b : Bool} {P Q R : Prop} (p : P) (hb : b = true := by rfl) : (b = true → P ∨ Q) ∧ (b = false → R) := ⟨fun _ => .inl p, fun k => absurd (hb.symm.trans k) (by decide)⟩
theorem sqJ {b : Bool} {P R : Prop} (p : P) (hb : b = true := by rfl) : (b = true → P) ∧ (b = false → R) := ⟨fun _ => p, fun k => absurd (hb.symm.trans k) (by decide)⟩
end Go.Proofs.YtkfhpefmmhljmaaGreatDoor
/- CtR -/
namespace Go.Proofs.YtkfhpefmmhljmaaGreatDoor
open Go.RowKit
set_option maxHeartbeats 1000000 in
theorem nAdvance_any (b : Nat) (s : ByteArray) (i nx er : Int) (w : World) (hB : Box w b [.string s, .int .i64 i, .int .i64 0]) :
  Calls Tryz.prog 165 #[.pointer (some ⟨b, 0, none⟩), .int .i64 nx, .int .i64 er] w fun e w' => e = .returned (.tuple #[]) ∧ Box w' b [.string s, .int .i64 (mvI er nx i), .int .i64 er] ∧ w.grownBy w' (some b) := by
 have HX := Lib.hid hB;obtain ⟨q0, s0, q1, s1, q2, s2⟩ := sqX3 hB;clear hB;by_cases h : er = 0
 ·subst h;have HF := Lib.hid ((HX.out.set1 2 (by simp) (.int .i64 0)).set1 1 (by simp) (.int .i64 nx));go_enter Tryz.func165, Tryz.ntmps165;go_wp2_with fail;exact bodyPost_end (v := .tuple #[]) (by simp [results, Tryz.results165, go_sem]) rfl ⟨rfl, HF.out, only_setCell (p := ⟨b, 1, none⟩) (only_setCell (p := ⟨b, 2, none⟩) (World.grownBy.refl _ _) (.inl rfl) _) (.inl rfl) _⟩
 ·have e0 : (er == 0) = false := beq_eq_false_iff_ne.2 h;have HM : Hid (mvI er nx i = i) := if_neg h;have HF := Lib.hid (HX.out.set1 2 (by simp) (.int .i64 er));clear h;go_enter Tryz.func165, Tryz.ntmps165;go_wp2_with fail;exact bodyPost_end (v := .tuple #[]) (by simp [results, Tryz.results165, go_sem]) rfl ⟨rfl, by rw [HM.out]; exact HF.out, only_setCell (p := ⟨b, 2, none⟩) (World.grownBy.refl _ _) (.inl rfl) _⟩
set_option maxHeartbeats 4000000 in
theorem nWord_any (b : Nat) (s : Bytes) (y : Bytes) (rd : Rd) (w : World) (hs : SlOk s) (hl : s.length ≤ 1000000)  (hR : RdR w b s rd) :
  Calls Tryz.prog 103 #[.pointer (some ⟨b, 0, none⟩), .string (bstr y)] w (StepR b s (rWord s y rd) w) := by
 have hR0 := hR;obtain ⟨i, er, hB, h0, h1, h2, h3⟩ := hR.er;have HB := Lib.hid hB;obtain ⟨q0, s0, q1, s1, q2, s2⟩ := sqX3 hB;by_cases he : rd.e = 0
 ·obtain rfl := h0.2 he;obtain ⟨rfl, hi1, hi2⟩ := h3 he;have E : Hid (rWord s y rd = rMove rd (expW s rd.i y).1 (expW s rd.i y).2) := if_neg (by rw [he]; simp);have K1 := Lib.hid fun W => expectWord_any s rd.i y W hs ⟨hi1, hi2⟩ hl
  have hlt : b < w.heap.size := hB.lt (by simp);clear hB hR hR0 h0 h1 h2 h3 he;go_enter Tryz.func103, Tryz.ntmps103;go_wp2_with fail;refine region_tie (X := Int × Int) (w0 := w) { n := 9, m := 1000, q := 1000, V := fun ox jq => (match jq with | 0 => .pointer (some ⟨b, 0, none⟩) | 1 => .pointer (some ⟨b, 0, none⟩) | 2 => .pointer (some ⟨b, 0, none⟩) | 3 => .string (bstr s) | 4 => .pointer (some ⟨b, 0, none⟩) | 5 => .pointer (some ⟨b, 0, none⟩) | 6 => .pointer (some ⟨b, 1, none⟩) | 7 => .int .i64 rd.i | 8 => .string (bstr y) | 9 => ox.elim undef (fun x => .tuple #[.int .i64 x.1, .int .i64 x.2]) | 10 => ox.elim undef (fun x => .tuple #[.int .i64 x.1, .int .i64 x.2]) | 11 => ox.elim undef (fun x => .int .i64 x.1) | 12 => ox.elim undef (fun x => .int .i64 x.2) | 13 => ox.elim undef (fun x => .int .i64 x.1) | 14 => ox.elim undef (fun x => .int .i64 x.2) | _ => undef), dep := fun jq => ([9, 10, 11, 12, 13, 14] : List Nat).contains jq, Post := fun x _ => MvP (expW s rd.i y) x.1 x.2, zs := [], S := fun x => [] } (by kernel_rfl) (by kernel_rfl) (by kernel_rfl) ?_ (fun _ _ _ _ h => h) ?_ ?_
  ·intro x jq hd;rcases jq with _ | _ | _ | _ | _ | _ | _ | _ | _ | _ | _ | _ | _ | _ | _ | jq <;> first | rfl | exact absurd (show true = false from hd) (by decide)
  ·intro iq oq ho aq W ox hI hx hpo hdep hrest hgd;have hdep := @sqE _ _ _ _ hdep;have hfn := sqF aq;rcases iq with _|_|_|_|_|_|_|_|_|_|_|_|_|_|_|iq
   ·cases ho;refine sqT 0 9 1000 1000 ?_;simp [go_sem, hrest 0 (by kernel_rfl)]
   ·cases ho;refine sqT 1 9 1000 1000 ?_;simp [go_sem, hdep ⟨0, .data⟩ (sqM 0 1000)]
   ·cases ho;refine sqT 2 9 1000 1000 ?_;simp [go_sem, hdep ⟨1, .data⟩ (sqM 1 1000)]
   ·cases ho;have c0 := (hI.cell (p := ⟨b, 0, none⟩) hlt).trans q0;refine sqT 3 9 1000 1000 ?_;simp [go_sem, hdep ⟨2, .data⟩ (sqM 2 1000), c0]
   ·cases ho;refine sqT 4 9 1000 1000 ?_;simp [go_sem, hrest 0 (by kernel_rfl)]
   ·cases ho;refine sqT 5 9 1000 1000 ?_;simp [go_sem, hdep ⟨4, .data⟩ (sqM 4 1000)]
   ·cases ho;refine sqT 6 9 1000 1000 ?_;simp [go_sem, hdep ⟨5, .data⟩ (sqM 5 1000)]
   ·cases ho;have c1 := (hI.cell (p := ⟨b, 1, none⟩) hlt).trans q1;refine sqT 7 9 1000 1000 ?_;simp [go_sem, hdep ⟨6, .data⟩ (sqM 6 1000), c1]
   ·cases ho;refine sqT 8 9 1000 1000 ?_;simp [go_sem, hrest 1 (by kernel_rfl)]
   ·cases ho;refine ⟨fun _ => ⟨fun _ => ⟨101, #[.string (bstr s), .int .i64 rd.i, .string (bstr y)], ?_, (K1.out W).mono fun e w' ⟨hb, nx, er, he, hP⟩ => ⟨(nx, er), he, hP, hb⟩⟩, sqN 9 1000, sqN 9 1000, fun h => absurd rfl h⟩, nofun⟩;simp [go_sem, hdep ⟨3, .data⟩ (sqM 3 1000), hdep ⟨7, .data⟩ (sqM 7 1000), hdep ⟨8, .data⟩ (sqM 8 1000), hfn]
   ·cases ho;obtain ⟨x, rfl⟩ := hx rfl (sqM 10 9);refine sqT 10 9 1000 1000 ?_;simp [go_sem, hdep ⟨9, .data⟩ (sqM 9 1000)]
   ·cases ho;obtain ⟨x, rfl⟩ := hx rfl (sqM 11 9);refine sqT 11 9 1000 1000 ?_;simp [go_sem, hdep ⟨10, .data⟩ (sqM 10 1000)]
   ·cases ho;obtain ⟨x, rfl⟩ := hx rfl (sqM 12 9);refine sqT 12 9 1000 1000 ?_;simp [go_sem, hdep ⟨10, .data⟩ (sqM 10 1000)]
   ·cases ho;obtain ⟨x, rfl⟩ := hx rfl (sqM 13 9);refine sqT 13 9 1000 1000 ?_;simp [go_sem, hdep ⟨11, .data⟩ (sqM 11 1000)]
   ·cases ho;obtain ⟨x, rfl⟩ := hx rfl (sqM 14 9);refine sqT 14 9 1000 1000 ?_;simp [go_sem, hdep ⟨12, .data⟩ (sqM 12 1000)]
   ·simp at ho
  intro x g wx hb hP hG;simp (decide := true) only [putAll, Act.put, List.setIfInBounds_toArray, List.set_cons_zero, List.set_cons_succ, Nat.reduceAdd, Option.elim, if_true, if_false];replace hP : (fun x _ => MvP (expW s rd.i y) x.1 x.2) x wx := hP
  (try dsimp only at hP)
  clear hG;have HBX := Lib.hid (HB.out.up hb hlt);have HW := Lib.hid (grown_below (b := b) hb);have HP := Lib.hid hP;have HL := Lib.hid (fun h => expW_le s rd.i y h);clear K1 HB hb hP q0 q1 q2 s0 s1 s2;obtain ⟨nx, er⟩ := x;go_wp2_with fail;refine (nAdvance_any b (bstr s) rd.i nx er _ HBX.out).mono ?_;rintro e w2 ⟨rfl, hB2, hg2⟩;go_wp2_with fail;exact bodyPost_end (v := .tuple #[]) (by simp [results, Tryz.results103, go_sem]) rfl ⟨rfl, by rw [E.out]; exact RdR.move hB2 HP.out HL.out hl, grown_trans HW.out hg2⟩
 ·have E : Hid (rWord s y rd = rd) := if_pos he;have e0 : (er == 0) = false := beq_eq_false_iff_ne.2 fun h => he (h0.1 h)
  have e1 : (er != 0) = true := bne_iff_ne.2 fun h => he (h0.1 h)
  have HR := Lib.hid hR0;clear hB hR hR0 h0 h1 h2 h3 he;go_enter Tryz.func103, Tryz.ntmps103;go_wp2_with fail;exact bodyPost_ret (v := .tuple #[]) (by simp [results, Tryz.results103, go_sem]) rfl ⟨rfl, by rw [E.out]; exact HR.out, World.grownBy.refl _ _⟩
set_option maxHeartbeats 4000000 in
theorem nInteger_any (b : Nat) (s : Bytes)  (rd : Rd) (w : World) (hs : SlOk s) (hl : s.length ≤ 1000000)  (hR : RdR w b s rd) :
  Calls Tryz.prog 104 #[.pointer (some ⟨b, 0, none⟩)] w (IntR b s (rInt s rd) w) := by
 have hR0 := hR;obtain ⟨i, er, hB, h0, h1, h2, h3⟩ := hR.er;have HB := Lib.hid hB;obtain ⟨q0, s0, q1, s1, q2, s2⟩ := sqX3 hB;by_cases he : rd.e = 0
 ·obtain rfl := h0.2 he;obtain ⟨rfl, hi1, hi2⟩ := h3 he;have E : Hid (rInt s rd = ((expI s rd.i).2.1, rMove rd (expI s rd.i).1 (expI s rd.i).2.2)) := if_neg (by rw [he]; simp);have K1 := Lib.hid fun W => expectInt_any s rd.i W hs ⟨hi1, hi2⟩ hl
  have hlt : b < w.heap.size := hB.lt (by simp);clear hB hR hR0 h0 h1 h2 h3 he;go_enter Tryz.func104, Tryz.ntmps104;go_wp2_with fail;refine region_tie (X := Int × Int × Int) (w0 := w) { n := 8, m := 1000, q := 1000, V := fun ox jq => (match jq with | 0 => .pointer (some ⟨b, 0, none⟩) | 1 => .pointer (some ⟨b, 0, none⟩) | 2 => .pointer (some ⟨b, 0, none⟩) | 3 => .string (bstr s) | 4 => .pointer (some ⟨b, 0, none⟩) | 5 => .pointer (some ⟨b, 0, none⟩) | 6 => .pointer (some ⟨b, 1, none⟩) | 7 => .int .i64 rd.i | 8 => ox.elim undef (fun x => .tuple #[.int .i64 x.1, .int .i64 x.2.1, .int .i64 x.2.2]) | 9 => ox.elim undef (fun x => .tuple #[.int .i64 x.1, .int .i64 x.2.1, .int .i64 x.2.2]) | 10 => ox.elim undef (fun x => .int .i64 x.1) | 11 => ox.elim undef (fun x => .int .i64 x.2.1) | 12 => ox.elim undef (fun x => .int .i64 x.2.2) | 13 => ox.elim undef (fun x => .int .i64 x.1) | 14 => ox.elim undef (fun x => .int .i64 x.2.1) | 15 => ox.elim undef (fun x => .int .i64 x.2.2) | _ => undef), dep := fun jq => ([8, 9, 10, 11, 12, 13, 14, 15] : List Nat).contains jq, Post := fun x _ => IntP (expI s rd.i) x.1 x.2.1 x.2.2, zs := [], S := fun x => [] } (by kernel_rfl) (by kernel_rfl) (by kernel_rfl) ?_ (fun _ _ _ _ h => h) ?_ ?_
  ·intro x jq hd;rcases jq with _ | _ | _ | _ | _ | _ | _ | _ | _ | _ | _ | _ | _ | _ | _ | _ | jq <;> first | rfl | exact absurd (show true = false from hd) (by decide)
  ·intro iq oq ho aq W ox hI hx hpo hdep hrest hgd;have hdep := @sqE _ _ _ _ hdep;have hfn := sqF aq;rcases iq with _|_|_|_|_|_|_|_|_|_|_|_|_|_|_|_|iq
   ·cases ho;refine sqT 0 8 1000 1000 ?_;simp [go_sem, hrest 0 (by kernel_rfl)]
   ·cases ho;refine sqT 1 8 1000 1000 ?_;simp [go_sem, hdep ⟨0, .data⟩ (sqM 0 1000)]
   ·cases ho;refine sqT 2 8 1000 1000 ?_;simp [go_sem, hdep ⟨1, .data⟩ (sqM 1 1000)]
   ·cases ho;have c0 := (hI.cell (p := ⟨b, 0, none⟩) hlt).trans q0;refine sqT 3 8 1000 1000 ?_;simp [go_sem, hdep ⟨2, .data⟩ (sqM 2 1000), c0]
   ·cases ho;refine sqT 4 8 1000 1000 ?_;simp [go_sem, hrest 0 (by kernel_rfl)]
   ·cases ho;refine sqT 5 8 1000 1000 ?_;simp [go_sem, hdep ⟨4, .data⟩ (sqM 4 1000)]
   ·cases ho;refine sqT 6 8 1000 1000 ?_;simp [go_sem, hdep ⟨5, .data⟩ (sqM 5 1000)]
   ·cases ho;have c1 := (hI.cell (p := ⟨b, 1, none⟩) hlt).trans q1;refine sqT 7 8 1000 1000 ?_;simp [go_sem, hdep ⟨6, .data⟩ (sqM 6 1000), c1]
   ·cases ho;refine ⟨fun _ => ⟨fun _ => ⟨166, #[.string (bstr s), .int .i64 rd.i], ?_, (K1.out W).mono fun e w' ⟨hb, n, nx, er, he, hP⟩ => ⟨(n, nx, er), he, hP, hb⟩⟩, sqN 8 1000, sqN 8 1000, fun h => absurd rfl h⟩, nofun⟩;simp [go_sem, hdep ⟨3, .data⟩ (sqM 3 1000), hdep ⟨7, .data⟩ (sqM 7 1000), hfn]
   ·cases ho;obtain ⟨x, rfl⟩ := hx rfl (sqM 9 8);refine sqT 9 8 1000 1000 ?_;simp [go_sem, hdep ⟨8, .data⟩ (sqM 8 1000)]
   ·cases ho;obtain ⟨x, rfl⟩ := hx rfl (sqM 10 8);refine sqT 10 8 1000 1000 ?_;simp [go_sem, hdep ⟨9, .data⟩ (sqM 9 1000)]
   ·cases ho;obtain ⟨x, rfl⟩ := hx rfl (sqM 11 8);refine sqT 11 8 1000 1000 ?_;simp [go_sem, hdep ⟨9, .data⟩ (sqM 9 1000)]
   ·cases ho;obtain ⟨x, rfl⟩ := hx rfl (sqM 12 8);refine sqT 12 8 1000 1000 ?_;simp [go_sem, hdep ⟨9, .data⟩ (sqM 9 1000)]
   ·cases ho;obtain ⟨x, rfl⟩ := hx rfl (sqM 13 8);refine sqT 13 8 1000 1000 ?_;simp [go_sem, hdep ⟨10, .data⟩ (sqM 10 1000)]
   ·cases ho;obtain ⟨x, rfl⟩ := hx rfl (sqM 14 8);refine sqT 14 8 1000 1000 ?_;simp [go_sem, hdep ⟨11, .data⟩ (sqM 11 1000)]
   ·cases ho;obtain ⟨x, rfl⟩ := hx rfl (sqM 15 8);refine sqT 15 8 1000 1000 ?_;simp [go_sem, hdep ⟨12, .data⟩ (sqM 12 1000)]
   ·simp at ho
  intro x g wx hb hP hG;simp (decide := true) only [putAll, Act.put, List.setIfInBounds_toArray, List.set_cons_zero, List.set_cons_succ, Nat.reduceAdd, Option.elim, if_true, if_false];replace hP : (fun x _ => IntP (expI s rd.i) x.1 x.2.1 x.2.2) x wx := hP
  (try dsimp only at hP)
  clear hG;have HBX := Lib.hid (HB.out.up hb hlt);have HW := Lib.hid (grown_below (b := b) hb);have HP := Lib.hid hP;have HL := Lib.hid (fun h => expI_le s rd.i h);clear K1 HB hb hP q0 q1 q2 s0 s1 s2;obtain ⟨n, nx, er⟩ := x;go_wp2_with fail;refine (nAdvance_any b (bstr s) rd.i nx er _ HBX.out).mono ?_;rintro e w2 ⟨rfl, hB2, hg2⟩;go_wp2_with fail;refine bodyPost_ret (v := .int .i64 n) (by simp [results, Tryz.results104, go_sem]) rfl ⟨by rw [E.out]; exact ret_int HP.out.1, by rw [E.out]; exact RdR.move (r := ((expI s rd.i).1, (expI s rd.i).2.2)) hB2 HP.out.2 HL.out hl, grown_trans HW.out hg2⟩
 ·have E : Hid (rInt s rd = (0, rd)) := if_pos he;have e0 : (er == 0) = false := beq_eq_false_iff_ne.2 fun h => he (h0.1 h)
  have e1 : (er != 0) = true := bne_iff_ne.2 fun h => he (h0.1 h)
  have HR := Lib.hid hR0;clear hB hR hR0 h0 h1 h2 h3 he;go_enter Tryz.func104, Tryz.ntmps104;go_wp2_with fail;exact bodyPost_ret (v := .int .i64 0) (by simp [results, Tryz.results104, go_sem]) rfl ⟨by rw [E.out], by rw [E.out]; exact HR.out, World.grownBy.refl _ _⟩
theorem Box.grown {w w' : World} {g b : Nat} {vs : List Value} (h : Box w g vs) (hg : w.grownBy w' (some b)) (hne : g ≠ b) (hlt : g < w.heap.size) : Box w' g vs := fun j hj =>
 have hb : w'.heap[g]? = w.heap[g]? := hg.block g hlt (fun e => hne (by injection e))
 ⟨(World.cell?_of_block (a := ⟨g, j, none⟩) hb).trans (h j hj).1, (World.frozen?_of_block (a := ⟨g, j, none⟩) hb).trans (h j hj).2⟩
theorem grown_setsN {a w : World} {b b' : Nat} (h : a.grownBy w (some b)) (hb : a.heap.size ≤ b') : ∀ (vs : List Value) (o : Nat), a.grownBy (w.setCells b' o vs) (some b) := by
 intro vs
 induction vs generalizing w with
 | nil => intro o; exact h
 | cons v r ih => intro o; rw [World.setCells]; exact ih (only_setCell h (p := ⟨b', o, none⟩) (.inr hb) v) _
def TokE (b : Nat) (s : Bytes) (k : Int) (rd : Rd) (w : World) (e : Ending) (w' : World) : Prop := ∃ k' t ng A l c ng' A' l' c', e = .returned (tkV k' t ng A l c ng' A' l' c') ∧
 (rd.e = 0 → (expT s rd.i k).1 = 0 → t = bstr (tkText (expT s rd.i k).2.1)) ∧ RdR w' b s (rTok s k rd) ∧ w.grownBy w' (some b)
theorem NextP.tx {r : Int × Tk × Int} {w : World} {k : Int} {t : ByteArray} {n1 n2 : Value} {nx er : Int} (h : NextP r w k t n1 n2 nx er) : r.1 = 0 → t = bstr (tkText r.2.1) := fun h0 => by
 rcases h with ⟨h1, h2, h3⟩ | ⟨h1, h2⟩
 ·exact (h3 h0).2.2.1
 ·rw [h1] at h0; cases h0
set_option maxHeartbeats 4000000 in
theorem nExpect_any (b : Nat) (s : Bytes) (k : Int) (rd : Rd) (w : World) (hs : SlOk s) (hl : s.length ≤ 1000000) (hk : k ≠ 4) (hR : RdR w b s rd) :
  Calls Tryz.prog 102 #[.pointer (some ⟨b, 0, none⟩), .int .u8 k] w (TokE b s k rd w) := by
 have hR0 := hR;obtain ⟨i, er, hB, h0, h1, h2, h3⟩ := hR.er;have HB := Lib.hid hB;by_cases he : rd.e = 0
 ·obtain rfl := h0.2 he;obtain ⟨rfl, hi1, hi2⟩ := h3 he;have E : Hid (rTok s k rd = rMove rd (expT s rd.i k).1 (expT s rd.i k).2.2) := if_neg (by rw [he]; simp);have K1 := Lib.hid fun W => expect_any s rd.i k W hs ⟨hi1, hi2⟩ hl
  have hblt : b < w.heap.size := hB.lt (by simp);have hB1 := hB.alloc hblt (.cells #[.int .u8 0, .string ⟨#[]⟩, .bool false, .slice none 0 0, .bool false, .slice none 0 0] 87);have HB1 := Lib.hid hB1;obtain ⟨q0, s0, q1, s1, q2, s2⟩ := sqX3 hB1;have hlt : b < (w.alloc (.cells #[.int .u8 0, .string ⟨#[]⟩, .bool false, .slice none 0 0, .bool false, .slice none 0 0] 87)).heap.size := by simp; omega
  clear hB hB1 hR hR0 h0 h1 h2 h3 he HB;go_enter Tryz.func102, Tryz.ntmps102;go_wp2_with fail;refine region_tie (X := TkX) (w0 := (w.alloc (.cells #[.int .u8 0, .string ⟨#[]⟩, .bool false, .slice none 0 0, .bool false, .slice none 0 0] 87))) { n := 9, m := 14, q := 15, V := fun ox jq => (match jq with | 0 => .pointer (some ⟨b, 0, none⟩) | 1 => .pointer (some ⟨b, 0, none⟩) | 2 => .pointer (some ⟨b, 0, none⟩) | 3 => .string (bstr s) | 4 => .pointer (some ⟨b, 0, none⟩) | 5 => .pointer (some ⟨b, 0, none⟩) | 6 => .pointer (some ⟨b, 1, none⟩) | 7 => .int .i64 rd.i | 8 => .int .u8 k | 9 => ox.elim undef (fun x => .tuple #[.agg #[.int .u8 x.k, .string x.t, .bool x.ng, .slice x.A x.l x.c, .bool x.ng', .slice x.A' x.l' x.c'], .int .i64 x.nx, .int .i64 x.er]) | 10 => ox.elim undef (fun x => .tuple #[.agg #[.int .u8 x.k, .string x.t, .bool x.ng, .slice x.A x.l x.c, .bool x.ng', .slice x.A' x.l' x.c'], .int .i64 x.nx, .int .i64 x.er]) | 11 => ox.elim undef (fun x => .agg #[.int .u8 x.k, .string x.t, .bool x.ng, .slice x.A x.l x.c, .bool x.ng', .slice x.A' x.l' x.c']) | 12 => ox.elim undef (fun x => .int .i64 x.nx) | 13 => ox.elim undef (fun x => .int .i64 x.er) | 14 => undef | 15 => undef | 16 => ox.elim undef (fun x => .int .i64 x.nx) | 17 => ox.elim undef (fun x => .int .i64 x.er) | _ => undef), dep := fun jq => ([9, 10, 11, 12, 13, 16, 17] : List Nat).contains jq, Post := fun x _ => MvP ((expT s rd.i k).1, (expT s rd.i k).2.2) x.nx x.er ∧ ((expT s rd.i k).1 = 0 → x.t = bstr (tkText (expT s rd.i k).2.1)), zs := [.int .u8 0, .string ⟨#[]⟩, .bool false, .slice none 0 0, .bool false, .slice none 0 0], S := fun x => [.int .u8 x.k, .string x.t, .bool x.ng, .slice x.A x.l x.c, .bool x.ng', (Value.slice x.A' x.l' x.c')] } (by kernel_rfl) (by kernel_rfl) (by kernel_rfl) ?_ (fun _ _ _ _ h => h) ?_ ?_
  ·intro x jq hd;rcases jq with _ | _ | _ | _ | _ | _ | _ | _ | _ | _ | _ | _ | _ | _ | _ | _ | _ | _ | jq <;> first | rfl | exact absurd (show true = false from hd) (by decide)
  ·intro iq oq ho aq W ox hI hx hpo hdep hrest hgd;have hdep := @sqE _ _ _ _ hdep;have hgd := @sqG _ _ _ _ hgd;have hfn := sqF aq;rcases iq with _|_|_|_|_|_|_|_|_|_|_|_|_|_|_|_|_|_|iq
   ·cases ho;refine sqT 0 9 14 15 ?_;simp [go_sem, hrest 0 (by kernel_rfl)]
   ·cases ho;refine sqT 1 9 14 15 ?_;simp [go_sem, hdep ⟨0, .data⟩ (sqM 0 14)]
   ·cases ho;refine sqT 2 9 14 15 ?_;simp [go_sem, hdep ⟨1, .data⟩ (sqM 1 14)]
   ·cases ho;have c0 := (hI.cell (p := ⟨b, 0, none⟩) hlt).trans q0;refine sqT 3 9 14 15 ?_;simp [go_sem, hdep ⟨2, .data⟩ (sqM 2 14), c0]
   ·cases ho;refine sqT 4 9 14 15 ?_;simp [go_sem, hrest 0 (by kernel_rfl)]
   ·cases ho;refine sqT 5 9 14 15 ?_;simp [go_sem, hdep ⟨4, .data⟩ (sqM 4 14)]
   ·cases ho;refine sqT 6 9 14 15 ?_;simp [go_sem, hdep ⟨5, .data⟩ (sqM 5 14)]
   ·cases ho;have c1 := (hI.cell (p := ⟨b, 1, none⟩) hlt).trans q1;refine sqT 7 9 14 15 ?_;simp [go_sem, hdep ⟨6, .data⟩ (sqM 6 14), c1]
   ·cases ho;refine sqT 8 9 14 15 ?_;simp [go_sem, hrest 1 (by kernel_rfl)]
   ·cases ho;refine ⟨fun _ => ⟨fun _ => ⟨121, #[.string (bstr s), .int .i64 rd.i, .int .u8 k], ?_, (K1.out W).mono fun e w' ⟨hb, k', t, ng, A, l, c, ng', A', l', c', nx, er, he, hP, hK⟩ => ⟨⟨k', t, ng, A, l, c, ng', A', l', c', nx, er⟩, he, ⟨hP.mv hK hk, hP.tx⟩, hb⟩⟩, sqN 9 14, sqN 9 15, fun h => absurd rfl h⟩, nofun⟩;simp [go_sem, hdep ⟨3, .data⟩ (sqM 3 14), hdep ⟨7, .data⟩ (sqM 7 14), hdep ⟨8, .data⟩ (sqM 8 14), hfn]
   ·cases ho;obtain ⟨x, rfl⟩ := hx rfl (sqM 10 9);refine sqT 10 9 14 15 ?_;simp [go_sem, hdep ⟨9, .data⟩ (sqM 9 14)]
   ·cases ho;obtain ⟨x, rfl⟩ := hx rfl (sqM 11 9);refine sqT 11 9 14 15 ?_;simp [go_sem, hdep ⟨10, .data⟩ (sqM 10 14)]
   ·cases ho;obtain ⟨x, rfl⟩ := hx rfl (sqM 12 9);refine sqT 12 9 14 15 ?_;simp [go_sem, hdep ⟨10, .data⟩ (sqM 10 14)]
   ·cases ho;obtain ⟨x, rfl⟩ := hx rfl (sqM 13 9);refine sqT 13 9 14 15 ?_;simp [go_sem, hdep ⟨10, .data⟩ (sqM 10 14)]
   ·cases ho;clear hrest hdep hgd;exact ⟨fun _ => ⟨sqN 14 9, fun _ => ⟨_, rfl⟩, sqN 14 15, fun _ h => absurd rfl h⟩, nofun⟩
   ·cases ho;clear hrest;refine ⟨fun _ => ⟨sqN 15 9, sqN 15 14, fun _ x gg hox h1 h2 hbox hgg => ?_, fun _ _ h => absurd rfl h⟩, nofun⟩;subst hox;have d14 : aq.eval (.tmp 5) = .pointer (some ⟨gg, 0, none⟩) := hgg _ _ rfl rfl;have d11 : aq.eval (.tmp 25) = .agg #[.int .u8 x.k, .string x.t, .bool x.ng, .slice x.A x.l x.c, .bool x.ng', .slice x.A' x.l' x.c'] := hdep ⟨11, .data⟩ (sqM 11 14);clear hdep hgd;obtain ⟨b0, c0, b1, c1, b2, c2, b3, c3, b4, c4, b5, c5⟩ := sqX6 hbox;refine ⟨?_, hpo x rfl, rfl⟩;clear hI hpo hx hbox hgg;generalize aq.eval = ρ at *;simp [go_sem, d14, d11, b0, c0, b1, c1, b2, c2, b3, c3, b4, c4, b5, c5]
    try rfl
   ·cases ho;obtain ⟨x, rfl⟩ := hx rfl (sqM 16 9);refine sqT 16 9 14 15 ?_;simp [go_sem, hdep ⟨12, .data⟩ (sqM 12 14)]
   ·cases ho;obtain ⟨x, rfl⟩ := hx rfl (sqM 17 9);refine sqT 17 9 14 15 ?_;simp [go_sem, hdep ⟨13, .data⟩ (sqM 13 14)]
   ·simp at ho
  intro x g wx hb hP hG;simp (decide := true) only [putAll, Act.put, List.setIfInBounds_toArray, List.set_cons_zero, List.set_cons_succ, Nat.reduceAdd, Option.elim, if_true, if_false];replace hP : (fun x _ => MvP ((expT s rd.i k).1, (expT s rd.i k).2.2) x.nx x.er ∧ ((expT s rd.i k).1 = 0 → x.t = bstr (tkText (expT s rd.i k).2.1))) x wx := hP
  (try dsimp only at hP)
  obtain ⟨hg1, hg2, hg3⟩ : (w.alloc (.cells #[.int .u8 0, .string ⟨#[]⟩, .bool false, .slice none 0 0, .bool false, .slice none 0 0] 87)).heap.size ≤ g ∧ g < wx.heap.size ∧ Box wx g [.int .u8 x.k, .string x.t, .bool x.ng, .slice x.A x.l x.c, .bool x.ng', (Value.slice x.A' x.l' x.c')] := ⟨(hG (show (14 : Nat) < 18 by decide)).1, (hG (show (14 : Nat) < 18 by decide)).2.1, (hG (show (14 : Nat) < 18 by decide)).2.2 (show (15 : Nat) < 18 by decide)⟩;clear hG;have HBX := Lib.hid (HB1.out.up hb hlt);have HZ := Lib.hid ((Box.new w #[.int .u8 0, .string ⟨#[]⟩, .bool false, .slice none 0 0, .bool false, .slice none 0 0] 87).up hb (by simp));have HW := Lib.hid (grown_trans (grown_below (b := b) ((Below.refl _ _).alloc (Nat.le_refl _) (.cells #[.int .u8 0, .string ⟨#[]⟩, .bool false, .slice none 0 0, .bool false, .slice none 0 0] 87))) (grown_below (b := b) hb));have HP := Lib.hid hP;have HG := Lib.hid hg3;have hgs : w.heap.size + 1 ≤ g := by simpa using hg1
  have hgx := hg2;have hsx : w.heap.size < wx.heap.size := by omega
  have HL := Lib.hid (fun h => expT_le s rd.i k h);clear K1 HB1 hb hg1 hg2 hg3 hP hlt q0 q1 q2 s0 s1 s2;obtain ⟨xk, xt, xng, xA, xl, xc, xng', xA', xl', xc', nx, er⟩ := x;go_wp2_with fail;refine (nAdvance_any b (bstr s) rd.i nx er _ HBX.out).mono ?_;rintro e w2 ⟨rfl, hB2, hg2⟩;have hG2 := HG.out.grown hg2 (by omega) hgx;have hZ2 := HZ.out.grown hg2 (by omega) hsx;have HX2 := Lib.hid hB2;have HW2 := Lib.hid (grown_trans HW.out hg2);have hs2 : w.heap.size < w2.heap.size := Nat.lt_of_lt_of_le hsx hg2.size;obtain ⟨g0, y0, g1, y1, g2, y2, g3, y3, g4, y4, g5, y5⟩ := sqX6 hG2;obtain ⟨q0, s0, q1, s1, q2, s2, q3, s3, q4, s4, q5, s5⟩ := sqX6 hZ2;clear hG2 hB2 hg2 HBX HG HZ HW;go_wp2_with fail;refine bodyPost_ret (v := .agg #[.int .u8 xk, .string xt, .bool xng, .slice xA xl xc, .bool xng', .slice xA' xl' xc']) (by simp [results, Tryz.results102, go_sem, q0, q1, q2, q3, q4, q5]) rfl ⟨xk, xt, xng, xA, xl, xc, xng', xA', xl', xc', rfl, fun _ h => HP.out.2 h, ?_, ?_⟩
  ·rw [E.out];refine RdR.move (i := rd.i) (nx := nx) (er := er) (r := ((expT s rd.i k).1, (expT s rd.i k).2.2)) ?_ HP.out.1 HL.out hl;exact HX2.out.others (b' := w.heap.size) (by omega) 0 [.int .u8 xk, .string xt, .bool xng, .slice xA xl xc, .bool xng', .slice xA' xl' xc']
  ·exact grown_setsN HW2.out (Nat.le_refl _) [.int .u8 xk, .string xt, .bool xng, .slice xA xl xc, .bool xng', .slice xA' xl' xc'] 0
 ·have E : Hid (rTok s k rd = rd) := if_pos he;have e0 : (er == 0) = false := beq_eq_false_iff_ne.2 fun h => he (h0.1 h)
  have e1 : (er != 0) = true := bne_iff_ne.2 fun h => he (h0.1 h)
  have HR := Lib.hid (hR0.alloc (.cells #[.int .u8 0, .string ⟨#[]⟩, .bool false, .slice none 0 0, .bool false, .slice none 0 0] 87));have HE := Lib.hid he;have hblt : b < w.heap.size := hB.lt (by simp);have hB1 := hB.alloc hblt (.cells #[.int .u8 0, .string ⟨#[]⟩, .bool false, .slice none 0 0, .bool false, .slice none 0 0] 87);obtain ⟨q0, s0, q1, s1, q2, s2⟩ := sqX3 hB;clear hB hB1 hR hR0 h0 h1 h2 h3 he HB;go_enter Tryz.func102, Tryz.ntmps102;go_wp2_with fail;exact bodyPost_ret (v := .agg #[.int .u8 0, .string ⟨#[]⟩, .bool false, .slice none 0 0, .bool false, .slice none 0 0]) (by simp [results, Tryz.results102, go_sem]) rfl ⟨0, ⟨#[]⟩, false, none, 0, 0, false, none, 0, 0, rfl, fun h => absurd h HE.out, by rw [E.out]; exact HR.out, grown_below ((Below.refl _ _).alloc (Nat.le_refl _) _)⟩
end Go.Proofs.YtkfhpefmmhljmaaGreatDoor
