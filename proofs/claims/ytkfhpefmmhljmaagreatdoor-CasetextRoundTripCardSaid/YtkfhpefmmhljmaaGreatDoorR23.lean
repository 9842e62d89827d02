/- Texts in one: Sqz, KnH. -/
import Derived.Test.YtkfhpefmmhljmaaGreatDoorR22
set_option linter.unusedVariables false
set_option linter.unusedSimpArgs false
set_option maxHeartbeats 16000000
set_option maxRecDepth 100000
namespace Go.Proofs.YtkfhpefmmhljmaaGreatDoor
open Go.RowKit
theorem sqA {b : Bool} {P Q : Prop} (h : b = true) (p : P) : (b = true → P) ∧ (b = false → Q) := ⟨fun _ => p, fun k => absurd (h.symm.trans k) (by decide)⟩
theorem sqB {b : Bool} {P Q : Prop} (h : b = false) (q : Q) : (b = true → P) ∧ (b = false → Q) := ⟨fun k => absurd (h.symm.trans k) (by decide), fun _ => q⟩
theorem sqN (a b : Nat) {p : Prop} (h : a = b) (hd : Nat.beq a b = false := by rfl) : p := absurd h (Nat.ne_of_beq_eq_false hd)
theorem sqC (a : Act) : ∀ v, a.eval (.const v) = v := fun _ => rfl
theorem sqF (a : Act) : ∀ f, a.eval (.func f) = .func (.func f) #[] #[] := fun _ => rfl
theorem sqD {ops : Array Oper} {o : Oper} {Pr : Edge → Tmp → Prop} (h : ∀ e ∈ o.after, Region.binds .any e = true → ∀ (o' : Oper) (d : Tmp), ops[e.on]? = some o' → o'.dst = some d → Pr e d) :
  ∀ (e : Edge) {o' : Oper} {d : Tmp}, (_ : e ∈ o.after := by simp) → (_ : Region.binds .any e = true := by rfl) → (_ : ops[e.on]? = some o' := by rfl) → (_ : o'.dst = some d := by rfl) → Pr e d :=
 fun e _ _ h1 h2 h3 h4 => h e h1 h2 _ _ h3 h4
theorem sqG {ops : Array Oper} {o : Oper} {Pr : Tmp → Bool → Prop} {Qr : Bool → Bool → Prop} (h : ∀ (j : Nat) (want : Bool), o.guard = some (j, want) → ∀ (o' : Oper) (d : Tmp), ops[j]? = some o' → o'.dst = some d → ∀ b, Pr d b → Qr b want) :
  ∀ (j : Nat) (want : Bool) (b : Bool) {o' : Oper} {d : Tmp}, Pr d b → (_ : o.guard = some (j, want) := by rfl) → (_ : ops[j]? = some o' := by rfl) → (_ : o'.dst = some d := by rfl) → Qr b want :=
 fun j want b _ _ p h1 h2 h3 => h j want h1 _ _ h2 h3 b p
theorem sqE {ops : Array Oper} {o : Oper} {m : Nat} {Pr : Edge → Tmp → Prop} (h : ∀ e ∈ o.after, Region.binds .any e = true → e.on ≠ m → ∀ (o' : Oper) (d : Tmp), ops[e.on]? = some o' → o'.dst = some d → Pr e d) :
  ∀ (e : Edge) {o' : Oper} {d : Tmp}, e.on ≠ m → (_ : e ∈ o.after := by simp) → (_ : Region.binds .any e = true := by rfl) → (_ : ops[e.on]? = some o' := by rfl) → (_ : o'.dst = some d := by rfl) → Pr e d :=
 fun e _ _ hm h1 h2 h3 h4 => h e h1 h2 hm _ _ h3 h4
theorem sqM (a b : Nat) (hd : Nat.beq a b = false := by rfl) : a ≠ b := Nat.ne_of_beq_eq_false hd
theorem sqT (i n m q : Nat) {b : Bool} {A B C D Q : Prop} (d : D) (h1 : Nat.beq i n = false := by rfl) (h2 : Nat.beq i m = false := by rfl) (h3 : Nat.beq i q = false := by rfl) (hb : b = true := by rfl) :
  (b = true → (i = n → A) ∧ (i = m → B) ∧ (i = q → C) ∧ (i ≠ n → i ≠ m → i ≠ q → D)) ∧ (b = false → Q) :=
 ⟨fun _ => ⟨fun h => sqN i n h h1, fun h => sqN i m h h2, fun h => sqN i q h h3, fun _ _ _ => d⟩, fun k => absurd (hb.symm.trans k) (by decide)⟩
theorem sqI {b : Bool} {P Q R : Prop} (p : P) (hb : b = true := by rfl) : (b = true → P ∨ Q) ∧ (b = false → R) := ⟨fun _ => .inl p, fun k => absurd (hb.symm.trans k) (by decide)⟩
theorem sqJ {b : Bool} {P R : Prop} (p : P) (hb : b = true := by rfl) : (b = true → P) ∧ (b = false → R) := ⟨fun _ => p, fun k => absurd (hb.symm.trans k) (by decide)⟩
theorem pB {w : World} {base : Nat} {e : TypeId} {size : Nat} {v : Value} {n : Nat} {xs : List Value} (h : w.ownsRow base e size v (n + 1) xs) : ∃ g cp, v = .slice (some ⟨g, 0, none⟩) (n + 1) cp ∧ n + 1 ≤ cp ∧ base ≤ g ∧ g < w := by
 rcases h.2 with ⟨_, h0⟩ | ⟨g, cap, cur, rfl, hb, hg, hc, _⟩
 ·omega
 ·exact ⟨g, cap, rfl, hc, hb, (h.lt g rfl).2⟩
theorem rD (g m c lo hi : Nat) (h0 : lo < c) (h1 : lo ≤ hi) (h2 : hi ≤ c) (w : World) : (Instr.sliceAt 81 (.slice (some ⟨g, 0, none⟩) m c) (some (.int .i64 (lo : Int))) (some (.int .i64 (hi : Int))) none).run Tryz.prog w = .ok (.slice (some ⟨g, lo, none⟩) (hi - lo) (c - lo)) w := by
 rw [run_sliceAt_slice w _ _ _ _ _ und_w, run_slice_lh w _ _ m c und_w .i64 .i64 _ _ (by omega) (by omega) (by omega), wX, Tryz.sizeOf192];have h3 : ¬ c = lo := by omega
 by_cases hl : lo = 0 <;> simp [Result.andThen, sliced, h3, hl, Addr.add]
theorem WrdN.of_row {w : World} {base g c n : Nat} {ys vs : List Int} {g0 : Nat} (h : w.ownsRow base 192 1 (.slice (some ⟨g, 0, none⟩) n c) n (ys.map wV)) (hn : g ≠ g0) (hl : vs.length ≤ n) (he : ∀ i, i < vs.length → ys.getD i 0 = vs.getD i 0) : WrdN w g0 (some ⟨g, 0, none⟩) vs :=
 ⟨g, 0, rfl, (h.lt g rfl).2, hn, fun i hi => by rw [Nat.zero_add, (cellW h (by omega)).1, he i hi]⟩
theorem WrdN.below {w w' : World} {g : Nat} {A : Option Addr} {xs : List Int} (h : WrdN w g A xs) (hb : Below w w w') : WrdN w' g A xs := h.grown (zG hb)
theorem hQ {w : World} {g b : Nat} {vs : List Int} (h : WrdN w g (some ⟨b, 0, none⟩) vs) {p : Addr} (hp : p.block ≠ b) (v : Value) : WrdN (w.setCell p v) g (some ⟨b, 0, none⟩) vs := by
 obtain ⟨b9, o9, e9, h91, h92, h93⟩ := h;injection e9 with e9; injection e9 with e91 e92; subst e91; subst e92
 exact ⟨b, 0, rfl, by rw [zN]; exact h91, h92, fun i hi => by rw [κo _ _ _ _ (fun h => hp (by rw [h]))]; exact h93 i hi⟩
theorem zAa {w : World} {base g c n k m : Nat} {R : List Int} (h : w.ownsRow base 192 1 (.slice (some ⟨g, 0, none⟩) n c) n (R.map wV)) (hk : k + m ≤ n) : WrdR w w (some ⟨g, k, none⟩) ((R.drop k).take m) := fun _ => by
 have hl : R.length = n := by have := h.1; simpa using this
 refine ⟨g, k, rfl, (h.lt g rfl).2, fun i hi => ?_⟩;rw [κk, List.length_drop] at hi;rw [(cellW h (k := k + i) (by omega)).1, κd, κd, List.getElem?_take_of_lt (by omega), List.getElem?_drop]
theorem oT {us ws : List Int} {k m : Nat} (hw : ws.length = m) (hk : k + m ≤ us.length) : (us.take k ++ ws ++ us.drop (k + m)).drop (k + m) = us.drop (k + m) := by
 rw [List.drop_append, List.drop_of_length_le (by rw [κa, κk]; omega), κa, κk, Nat.min_eq_left (by omega), hw, Nat.sub_self, List.nil_append, List.drop_zero]
theorem iJ {us ws : List Int} {k m : Nat} (hw : ws.length = m) (hk : k + m ≤ us.length) : (us.take k ++ ws ++ us.drop (k + m)).take k = us.take k := by
 rw [κq, List.take_append_of_le_length (by rw [κk]; omega), κy (by rw [κk]; omega)]
theorem zAb {us ws : List Int} {k m : Nat} (hw : ws.length = m) (hk : k + m ≤ us.length) : ((us.take k ++ ws ++ us.drop (k + m)).drop k).take m = ws := by
 rw [κq, List.drop_append_of_le_length (by rw [κk]; omega), List.drop_of_length_le (by rw [κk]; omega), List.nil_append, List.take_append_of_le_length (by omega), κy (by omega)]
theorem nW {us ws : List Int} {k m : Nat} (hw : ws.length = m) (hk : k + m ≤ us.length) : (us.take k ++ ws ++ us.drop (k + m)).length = us.length := by
 rw [κa, κa, κk, List.length_drop]; omega
theorem dE (w : World) (n : Nat) (hn : n ≤ 1000000) : (w.alloc (.cells (madeCells #[.int .u32 0] n) 192)).ownsRow w 192 1 (.slice (some ⟨w, 0, none⟩) n n) n ((List.replicate n (0 : Int)).map wV) := by
 have e : (madeCells #[Value.int .u32 0] n).toList = (List.replicate n (0 : Int)).map wV := by
  apply List.ext_getElem
  ·simp [madeCells]
  ·intro i h1 h2;simp [madeCells, Nat.mod_one, wV]
 refine ⟨by simp, .inr ⟨w, n, madeCells #[.int .u32 0] n, rfl, νr _, ?_, νr _, by unfold maxLen; omega, by simp [madeCells], ?_⟩⟩
 ·show (w.heap.push _)[_]? = _
  simp
 ·rw [Nat.mul_one, e, κy (by simp)]
theorem sD {w w' : World} {base g b : Nat} {e : TypeId} {n k c : Nat} {xs : List Value} (h : w.ownsRow base e 1 (.slice (some ⟨g, 0, none⟩) n c) k xs) (hg : w.grownBy w' (some b)) (hn : g ≠ b) : w'.ownsRow base e 1 (.slice (some ⟨g, 0, none⟩) n c) k xs := by
 refine ⟨h.1, ?_⟩;rcases h.2 with h5 | ⟨g2, cap, cur, h5, h6, h7, h8⟩
 ·exact .inl h5
 ·have e0 : g2 = g := by injection h5 with h5; injection h5 with h5; injection h5 with h5; exact h5.symm
  refine .inr ⟨g2, cap, cur, h5, h6, ?_, h8⟩;rw [hg.block g2 (κi h7).1 (fun e => by injection e with e; omega)];exact h7
theorem eR {xs us vs : List Int} {la n s : Nat} (hwx : Words xs) (hl : xs.length = la) (hus : us.length = la + 1) (huw : Words us) (hv : wv us = wv xs * 2 ^ s) (hs0 : (1 : Int) ≤ 2 ^ s) (hs : (2 : Int) ^ s ≤ 2147483648) (hvl : vs.length = n) (hvw : Words vs) (hn : 1 ≤ n) (hnl : n ≤ la) (ht : 2147483648 ≤ vs.getD (n - 1) 0) : wv (us.drop (la - n + 1)) < wv vs := by
 obtain ⟨m, rfl⟩ : ∃ m, n = m + 1 := ⟨n - 1, by omega⟩;obtain ⟨k, rfl⟩ : ∃ k, la = k + m := ⟨la - m, by omega⟩;rw [show k + m - (m + 1) + 1 = k by omega];rw [Nat.add_sub_cancel] at ht;have h1 := jD (us.take k) (us.drop k);rw [List.take_append_drop, κk, Nat.min_eq_left (by omega), hv] at h1;have h2 := zS (huw.take k);have h3 := wv_lt hwx;rw [hl, Int.pow_add] at h3;have h4 : wv vs = wv (vs.take m) + 4294967296 ^ m * vs.getD m 0 := by
  rw [← xG (by omega), κy (by omega)]
 have h5 := zS (hvw.take m);have hm := bp m;have h6 : wv (us.drop k) < 4294967296 ^ m * 2147483648 := by
  apply Int.lt_of_mul_lt_mul_left (a := 4294967296 ^ k) _ (Int.le_of_lt (bp k));have h7 : wv xs * 2 ^ s < (4294967296 : Int) ^ k * 4294967296 ^ m * 2 ^ s := Int.mul_lt_mul_of_pos_right h3 (by omega);have h8 : (4294967296 : Int) ^ k * 4294967296 ^ m * 2 ^ s ≤ 4294967296 ^ k * 4294967296 ^ m * 2147483648 := Int.mul_le_mul_of_nonneg_left hs (Int.mul_nonneg (Int.le_of_lt (bp k)) (Int.le_of_lt hm));rw [← Int.mul_assoc];omega
 have h9 : (4294967296 : Int) ^ m * 2147483648 ≤ 4294967296 ^ m * vs.getD m 0 := Int.mul_le_mul_of_nonneg_left ht (Int.le_of_lt hm);omega
def RestE (bs : List Int) (w : World) (e : Ending) (w' : World) : Prop := ∃ q A c rs, e = .returned (.tuple #[q, .slice A rs.length c]) ∧ WrdR w' w' A rs ∧ rs.length ≤ c ∧ rs.length ≤ bs.length + 2 ∧ Words rs ∧ wv rs < wv bs ∧ Below w w w'
theorem nT (A D : Option Addr) (c d : Nat) (xs bs : List Int) (w : World) (ha : WrdR w w A xs) (hb : WrdR w w D bs) (hwa : Words xs) (hwb : Words bs) (ht : trimL bs = bs) (hn : 2 ≤ bs.length) (hl : bs.length ≤ xs.length) (hm : xs.length ≤ 900000) :
  Calls Tryz.prog 233 #[.slice A xs.length c, .slice D bs.length d] w (RestE bs w) := by
 obtain ⟨n, hnn⟩ : ∃ n, bs.length = n := ⟨_, rfl⟩;obtain ⟨la, hla⟩ : ∃ la, xs.length = la := ⟨_, rfl⟩;obtain ⟨n1, hn1⟩ : ∃ n1, n1 + 1 = n := ⟨n - 1, by omega⟩;obtain ⟨b2, off2, hD, hb2, hcc⟩ := hb (by omega);have f0 := hcc n1 (by omega);have htop : bs.getD n1 0 ≠ 0 := by
  intro h;have h1 : bs = bs.take n1 ++ [bs.getD n1 0] := by rw [← aS (by omega), κy (by omega)]
  rw [h] at h1;have h2 := ht;rw [h1, qF] at h2;have h3 := jE (bs.take n1);have h4 := congrArg List.length h2;rw [κa, List.length_singleton] at h4;omega
 have htb := hwb.getD n1;obtain ⟨s, hs31, hsv, hs0, hs1⟩ := sV (x := bs.getD n1 0) (by omega) htb.2;obtain ⟨vs, hvs, hvl, hvw, hvv, hvt⟩ := tM (s := s) hwb (by omega) hs31 (by rw [hnn, show n - 1 = n1 by omega]; exact hs0) (by rw [hnn, show n - 1 = n1 by omega]; exact hs1);obtain ⟨us, hus⟩ : ∃ us, scL (2 ^ s) 0 xs = us := ⟨_, rfl⟩;obtain ⟨p1, p2, kd, hkd⟩ := dZ hs31;have huv := nH (2 ^ s) (by omega) (by omega) xs 0 hwa (by decide) (by decide);rw [hus, Int.add_zero] at huv;have hul : us.length = la + 1 := by rw [← hus, rJ, hla]
 have KA := η fun W (hW : Below w w W) => fZ A c s xs W (ha.upto hW) hwa hs31 (by omega)
 have KB := η fun W (hW : Below w w W) => fZ D d s bs W (hb.upto hW) hwb hs31 (by omega)
 rw [hnn, hla];rw [hla, hus] at KA;rw [hnn] at KB;have HT := η (show 0 ≤ bs.getD n1 0 ∧ bs.getD n1 0 ≤ 4294967295 by omega);have HSV := η hsv;have HW := η (show us.length = la + 1 ∧ Words us ∧ vs.length = n ∧ Words vs ∧ wv vs = wv bs * 2 ^ s ∧ 2147483648 ≤ vs.getD (vs.length - 1) 0 ∧ (1 : Int) ≤ 2 ^ s ∧ 2 ^ s * kd = 4294967296 from ⟨hul, huv.1, by omega, hvw, hvv, hvt, p1, hkd⟩);have HVS : Hid ((scL (2 ^ s) 0 bs).take n = vs) := by rw [← hnn]; exact hvs
 have HUV := η huv.2;have HN := η (show 2 ≤ n ∧ n ≤ la ∧ la ≤ 900000 ∧ n1 + 1 = n ∧ s ≤ 31 by omega)
 -- above the first window
 have hstart : wv (us.drop (la - n + 1)) < wv vs := eR hwa hla hul huv.1 huv.2 p1 p2 (by omega) hvw (by omega) (by omega) (by rw [show n = vs.length by omega]; exact hvt);have HST := η hstart;have w0 : IntKind.i64.wrap ((n : Int) - 1) = (n1 : Int) := by rw [IntWalk.i64_in _ (by omega)]; omega
 have j0 : (n1 : Int) < (n : Int) := by omega
 have ps : IntKind.u64.wrap (s : Int) = (s : Int) := κu _ (by omega);have HNB := η hnn;clear ha hb hwa hwb ht hl hm hn hla hnn hn1 hcc htop htb hsv hs0 hs1 hvs hvl hvw hvv hvt hus huv hul p1 p2 hkd hs31 hstart;generalize bs.getD n1 0 = top at *;subst hD;go_enter Tryz.func233, Tryz.ntmps233;go_wp2_with fail;refine (Tryz.bits_LeadingZeros32 top w HT.out.1 HT.out.2).mono ?_;rintro e w' ⟨rfl, rfl⟩;rw [HSV.out];go_wp2_with fail;refine jF (X := Nat × Nat × Nat × Nat) (w0 := w') [2, 5] (fun jq => [0, 0, 1, 0, 0, 2, 0, 2, 2, 2].getD jq 0) (fun _ => 2)
  (fun _ x jq => (match jq with | 0 => .slice A la c | 1 => .int .u64 (s : Int) | 2 => .slice (some ⟨x.1, 0, none⟩) (la + 1) x.2.1 | 3 => .slice (some ⟨b2, off2, none⟩) n d | 4 => .int .u64 (s : Int) | 5 => .slice (some ⟨x.2.2.1, 0, none⟩) (n + 1) x.2.2.2 | 6 => .int .i64 (n : Int) | 7 => .slice (some ⟨x.2.2.1, 0, none⟩) n x.2.2.2 | 8 => .slice (some ⟨x.1, 0, none⟩) (la + 1) x.2.1 | 9 => .slice (some ⟨x.2.2.1, 0, none⟩) n x.2.2.2 | _ => undef))
  (fun t x W => match t with
   | 0 => Below w' w' W
   | 1 => Below w' w' W ∧ W.ownsRow w' 192 1 (.slice (some ⟨x.1, 0, none⟩) (la + 1) x.2.1) (la + 1) (us.map wV)
   | _ => Below w' w' W ∧ W.ownsRow w' 192 1 (.slice (some ⟨x.1, 0, none⟩) (la + 1) x.2.1) (la + 1) (us.map wV) ∧ W.ownsRow (x.1 + 1) 192 1 (.slice (some ⟨x.2.2.1, 0, none⟩) (n + 1) x.2.2.2) (n + 1) ((scL (2 ^ s) 0 bs).map wV) ∧ n + 1 ≤ x.2.2.2) (0, 0, 0, 0) (by kernel_rfl) (by kernel_rfl) (by kernel_rfl) (Below.refl _ _).drew ?_ ?_ ?_
 ·intro iq oq ho hnc aq W t x hI htl hcl hub hdep hrest hgd;have hdep := @sqD _ _ _ hdep;have hgd := @sqG _ _ _ _ hgd;rcases iq with _|_|_|_|_|_|_|_|_|_|iq
  ·cases ho; refine sqJ ?_; simp [go_sem, hrest 0 (by kernel_rfl)]
  ·cases ho; refine sqJ ?_; simp [go_sem, hrest 7 (by kernel_rfl)]
  ·exact absurd rfl (hnc 0 (by decide))
  ·cases ho; refine sqJ ?_; simp [go_sem, hrest 1 (by kernel_rfl)]
  ·cases ho; refine sqJ ?_; simp [go_sem, hrest 7 (by kernel_rfl)]
  ·exact absurd rfl (hnc 1 (by decide))
  ·cases ho; refine sqJ ?_; simp [go_sem, hrest 6 (by kernel_rfl)]
  ·cases ho;refine sqJ ?_;obtain rfl : t = 2 := by have h1 : 2 ≤ t := hcl; have h2 : t ≤ 2 := hub; omega
   have hcap : n + 1 ≤ x.2.2.2 := hI.2.2.2;have hsl := bB (some ⟨x.2.2.1, 0, none⟩) (n + 1) x.2.2.2 n (by omega) W;have d5 := hdep ⟨5, .data⟩;have d6 := hdep ⟨6, .data⟩;clear hI hdep hrest hgd hnc hcl hub htl;simp [go_sem, d5, d6, hsl]
  ·cases ho; refine sqJ ?_; simp [go_sem, hdep ⟨2, .data⟩]
  ·cases ho; refine sqJ ?_; simp [go_sem, hdep ⟨7, .data⟩]
  ·simp at ho
 ·intro k oq hk ho aq W x hI hdep hrest;have hdep := @sqD _ _ _ hdep;have hc := sqC aq;have hfn := sqF aq;rcases k with _ | _ | k
  ·cases ho;have d0 := hdep ⟨0, .data⟩;have d1 := hdep ⟨1, .data⟩;clear hdep hrest;refine ⟨by simp [Region.wanted], fun K Q hK => ?_⟩;refine zV (R := fun v w2 => w2.ownsRow W 192 1 v (la + 1) (us.map wV) ∧ Below W W w2) (f := 237) (args := #[.slice A la c, .int .u64 (s : Int)]) (w' := W) (by simp [go_sem, d0, d1, hfn]) ((KA.out W hI).mono fun e w2 ⟨v, he, hr, hb⟩ => ⟨v, he, hr, hb⟩) ?_;rintro v w2 ⟨hr, hbw⟩;have hsz := hI.size;obtain ⟨g, cp, rfl, hcp, hgb, hgl⟩ := pB hr;exact hK _ w2 (g, cp, 0, 0) ⟨hI.trans (hbw.mono hsz), vX hr hsz⟩ (fun d hd => rfl) (fun j hj hc => by rcases j with _ | _ | _ | _ | _ | _ | _ | _ | _ | _ | j <;> first | rfl | exact absurd hc (by decide))
  ·cases ho;have d3 := hdep ⟨3, .data⟩;have d4 := hdep ⟨4, .data⟩;clear hdep hrest;obtain ⟨g1, cp1, y, z⟩ := x;obtain ⟨hI1, hI2⟩ : Below w' w' W ∧ W.ownsRow w' 192 1 (.slice (some ⟨g1, 0, none⟩) (la + 1) cp1) (la + 1) (us.map wV) := hI;refine ⟨by simp [Region.wanted], fun K Q hK => ?_⟩;refine zV (R := fun v w2 => w2.ownsRow W 192 1 v (n + 1) ((scL (2 ^ s) 0 bs).map wV) ∧ Below W W w2) (f := 237) (args := #[.slice (some ⟨b2, off2, none⟩) n d, .int .u64 (s : Int)]) (w' := W) (by simp [go_sem, d3, d4, hfn]) ((KB.out W hI1).mono fun e w2 ⟨v, he, hr, hb⟩ => ⟨v, he, hr, hb⟩) ?_;rintro v w2 ⟨hr, hbw⟩;have hsz := hI1.size;obtain ⟨g, cp, rfl, hcp, hgb, hgl⟩ := pB hr;have hg1 := (hI2.lt g1 rfl).2;exact hK _ w2 (g1, cp1, g, cp) ⟨hI1.trans (hbw.mono hsz), qE hI2 hbw, vX hr hg1, hcp⟩ (fun d hd => rfl) (fun j hj hc => by rcases j with _ | _ | _ | _ | _ | _ | _ | _ | _ | _ | j <;> first | rfl | exact absurd hc (by decide))
  ·exact absurd hk (by simp)
 rintro ⟨g1, cp1, g2, cp2⟩ wx hI;simp only [qH, Act.put, σi, σo, σs, Nat.reduceAdd];obtain ⟨hI1, hI2, hI3, hI4⟩ : Below w' w' wx ∧ wx.ownsRow w' 192 1 (.slice (some ⟨g1, 0, none⟩) (la + 1) cp1) (la + 1) (us.map wV) ∧ wx.ownsRow (g1 + 1) 192 1 (.slice (some ⟨g2, 0, none⟩) (n + 1) cp2) (n + 1) ((scL (2 ^ s) 0 bs).map wV) ∧ n + 1 ≤ cp2 := hI;obtain ⟨k0, hk0⟩ : ∃ k0, k0 + n = la := ⟨la - n, by have := HN.out; omega⟩;have HVN : Hid (WrdN wx g1 (some ⟨g2, 0, none⟩) vs) := WrdN.of_row hI3 (by have := (hI3.lt g2 rfl).1; omega) (by have := HW.out.2.2.1; omega) (fun i hi => by rw [← HVS.out]; exact (yR (by rw [← HVS.out, κk] at hi; omega)).symm);have HB := η hI1;have HU := η hI2;have hcap1 : la + 1 ≤ cp1 := by obtain ⟨A, c, h1, h2⟩ := zQ hI2; injection h1 with _ _ h1; omega
 have hcap2 : n ≤ cp2 := by omega
 have hg12 : g1 < g2 := by have := (hI3.lt g2 rfl).1; omega
 have hgx : g2 < wx := (hI3.lt g2 rfl).2;have hwg : w' ≤ g1 := (hI2.lt g1 rfl).1;have hwx : w' ≤ wx.heap.size := hI1.size;clear hI1 hI2 hI3 hI4 KA KB HVS;have hn := HN.out;obtain ⟨k01, hk01⟩ : ∃ k01, k0 + 1 = k01 := ⟨_, rfl⟩;have k1 : IntKind.i64.wrap ((la : Int) - (n : Int)) = (k0 : Int) := by rw [IntWalk.i64_in _ (by omega)]; omega
 have k2 : IntKind.i64.wrap ((k0 : Int) + 1) = (k01 : Int) := by rw [IntWalk.i64_in _ (by omega)]; omega
 have hmk := fun (m : Nat) (hm : m ≤ 1000000) W => run_make_row' (P := Tryz.prog) 81 192 (.int .u32 0) 4 Tryz.underlying81 bM rfl .i64 .i64 m (by omega) (by omega) W
 have hm1 := hmk k01 (by omega);have hm2 := hmk n (by omega);have HM2 := η hm2;clear hmk hm2;go_upto_region 5 with fail
 have HQ0 : Hid (∃ qs : List Int, qs.length = k01 ∧ (wx.alloc (.cells (madeCells #[.int .u32 0] k01) 192)).ownsRow wx 192 1 (.slice (some ⟨wx, 0, none⟩) k01 k01) k01 (qs.map wV)) := ⟨List.replicate k01 0, by simp, dE wx k01 (by omega)⟩;have HB0 := η (HB.out.alloc hwx (.cells (madeCells #[.int .u32 0] k01) 192));have HU0 := η (HU.out.alloc (.cells (madeCells #[.int .u32 0] k01) 192));have HV0 := η (HVN.out.below (βA (.cells (madeCells #[.int .u32 0] k01) 192)));clear HB HU HVN hm1;have hgq : g2 < wx := hgx;obtain ⟨g3, hg3⟩ : ∃ g3, wx.heap.size = g3 := ⟨_, rfl⟩;have hzq : g3 < (wx.alloc (.cells (madeCells #[.int .u32 0] k01) 192)).heap.size := by simp; omega
 rw [hg3] at HQ0 hgq hwx;generalize (wx.alloc (.cells (madeCells #[.int .u32 0] k01) 192)) = wq at *;rw [hg3];clear hg3 hgx;go_wp2_with fail;go_loopg [10, 11, 12, 13, 14] k01 (fun gl s10 s11 s12 s13 s14 wr => ∃ (R qs : List Int), s10 = .int .i64 ((gl : Int) - 1) ∧ gl ≤ k01 ∧ R.length = la + 1 ∧ Words R ∧ wv (R.drop gl) < wv vs ∧ wr.ownsRow w' 192 1 (.slice (some ⟨g1, 0, none⟩) (la + 1) cp1) (la + 1) (R.map wV) ∧ WrdN wr g1 (some ⟨g2, 0, none⟩) vs ∧ qs.length = k01 ∧ wr.ownsRow g3 192 1 (.slice (some ⟨g3, 0, none⟩) k01 k01) k01 (qs.map wV) ∧ Below w' w' wr)
 case atStart =>
  obtain ⟨qs, q1, q2⟩ := HQ0.out;exact ⟨us, qs, by go_num, νr _, HW.out.1, HW.out.2.1, by rw [show k01 = la - n + 1 by omega]; exact HST.out, HU0.out, HV0.out, q1, q2, HB0.out⟩
 case round =>
  obtain ⟨R, qs, rfl, hgl, hRl, hRw, hRv, hrow, hvn, hql, hqr, hbl⟩ := hrel;have HRW := η hRw;have HRV := η hRv;have HR := η hrow;have HVN := η hvn;have HQ := η hqr;have HB := η hbl;clear hRw hRv hrow hvn hqr hbl HQ0 HB0 HU0 HV0 hzq;cases gk with
  | zero =>
   have hm2 := HM2.out wr;go_upto_region 20 with fail
   have hzr := HB.out.size;have hn := HN.out;obtain ⟨g4, hg4⟩ : ∃ g4, wr.heap.size = g4 := ⟨_, rfl⟩;have HB1 := η (HB.out.alloc hzr (.cells (madeCells #[.int .u32 0] n) 192));have HR1 := η (HR.out.alloc (.cells (madeCells #[.int .u32 0] n) 192));have HS1 := η (dE wr n (by omega));have hg14 : g1 < g4 := by have := (HR.out.lt g1 rfl).2; omega
   rw [hg4] at HS1;have hzr4 : w' ≤ g4 := by omega
   generalize (wr.alloc (.cells (madeCells #[.int .u32 0] n) 192)) = wm at *;rw [hg4];generalize wr = wo at *;clear hg4 HR HB HQ HVN hm2 HM2;obtain ⟨zl, hzl⟩ : ∃ zl, shrL (2 ^ s) (R.take (n + 1)) = zl := ⟨_, rfl⟩;have hzll : zl.length = n := by rw [← hzl, bD, κk]; omega
   have HZW : Hid (Words zl ∧ wv zl < wv bs) := by
    refine ⟨by rw [← hzl]; exact fY _ _, ?_⟩;rw [← hzl];refine zAm (k := kd) (Int.lt_of_lt_of_le (by decide) HW.out.2.2.2.2.2.2.1) HW.out.2.2.2.2.2.2.2 (HRW.out.take _) (by intro h; have := congrArg List.length h; rw [κk, κn] at this; omega) ?_;have h1 := bX HRW.out (n + 1);have h2 := HRV.out;rw [List.drop_zero, HW.out.2.2.2.2.1, Int.mul_comm] at h2;omega
   have HZG : Hid (∀ i, i < n → zl.getD i 0 = (R.getD i 0 + 4294967296 * R.getD (i + 1) 0) / 2 ^ s % 4294967296) := fun i hi => by
    rw [← hzl, mA _ _ _ (by rw [κk]; omega), yR (by omega), yR (by omega)]
   clear hzl;go_wp2_with fail;go_loopg [15, 116] n (fun gl s15 s116 wr => ∃ (i : Nat) (rs : List Int), i + gl = n ∧ s116 = .int .i64 (i : Int) ∧ rs.length = n ∧ rs.take i = zl.take i ∧ wr.ownsRow g4 192 1 (.slice (some ⟨g4, 0, none⟩) n n) n (rs.map wV) ∧ wr.ownsRow w' 192 1 (.slice (some ⟨g1, 0, none⟩) (la + 1) cp1) (la + 1) (R.map wV) ∧ Below w' w' wr)
   case atStart => exact ⟨0, List.replicate n 0, by omega, rfl, by simp, by simp, HS1.out, HR1.out, HB1.out⟩
   case round =>
    obtain ⟨i, rs, hig, rfl, hrl, htk, hrr, hru, hbq⟩ := hrel;have HTK := η htk;have HRR := η hrr;have HRU := η hru;have HBQ := η hbq;clear htk hrr hru hbq HS1 HR1 HB1;cases gk with
    | zero =>
     obtain rfl : i = n := by omega
     clear hig;go_wp2_with fail;have he : rs = zl := by have := HTK.out; rwa [κy (by omega), κy (by omega)] at this
     subst he;refine κr (v := .tuple #[.slice (some ⟨g3, 0, none⟩) k01 k01, .slice (some ⟨g4, 0, none⟩) i i]) (by simp [results, Tryz.results233, go_sem]) rfl ?_;refine ⟨_, some ⟨g4, 0, none⟩, i, rs, by rw [hrl], ?_, by omega, by have := HNB.out; omega, HZW.out.1, HZW.out.2, HBQ.out⟩;intro _;refine ⟨g4, 0, rfl, (HRR.out.lt g4 rfl).2, fun j hj => ?_⟩;rw [Nat.zero_add];exact (cellW HRR.out (by omega)).1
    | succ gl =>
     have hin : i < n := by omega
     have w3 : (i : Int) < (n : Int) := by omega
     have w4 : (i : Int) < (la : Int) + 1 := by omega
     have w5 : (i : Int) < (la : Int) := by omega
     have w6 : (i : Int) + 1 < (la : Int) + 1 := by omega
     have w7 : ¬ ((i : Int) + 1 < 0) := by omega
     have f0 := (cellW HRU.out (k := i) (by omega)).1;have f1 := (cellW HRU.out (k := i + 1) (by omega)).1;obtain ⟨f2, f3⟩ := cellW HRR.out (k := i) hin;have hx := HRW.out.getD i;have hy := HRW.out.getD (i + 1);have hv := HZG.out i hin;have hvb := HZW.out.1.getD i;generalize rs.getD i 0 = old at *;obtain ⟨x, hxx⟩ : ∃ x, R.getD i 0 = x := ⟨_, rfl⟩;obtain ⟨y, hyy⟩ : ∃ y, R.getD (i + 1) 0 = y := ⟨_, rfl⟩;obtain ⟨v, hvv⟩ : ∃ v, zl.getD i 0 = v := ⟨_, rfl⟩;rw [hxx] at f0 hx;rw [hyy] at f1 hy;rw [hxx, hyy, hvv] at hv;rw [hvv] at hvb;have p0 : IntKind.i64.wrap ((i : Int) + 1) = (i : Int) + 1 := IntWalk.i64_in _ (by omega);have p1 : IntKind.u64.wrap x = x := κu _ (by omega);have p2 : IntKind.u64.wrap y = y := κu _ (by omega);have p3 : IntKind.u64.wrap (y * 4294967296) = y * 4294967296 := κu _ (by omega);have p4 : bits .or .u64 x (y * 4294967296) = x + 4294967296 * y := fO x y hx hy;obtain ⟨z, hz⟩ : ∃ z, (x + 4294967296 * y) / 2 ^ s = z := ⟨_, rfl⟩;have p5 : IntKind.u32.wrap z = v := by rw [hv, ← hz]; rfl
     have HVB := η hvb;have HVV : Hid (zl.getD i 0 = v) := hvv;have hs31 := HN.out.2.2.2.2;have hgq1 : g1 < wr := (HRU.out.lt g1 rfl).2;have hgq4 : g4 < wr := (HRR.out.lt g4 rfl).2;have hmn : min s 64 = s := Nat.min_eq_left (by omega);clear hxx hyy hvv hx hy hv hvb;go_wp2_with fail;refine dT (w0 := wr) (wr.setCell ⟨g4, i, none⟩ (.int .u32 v)) 19 [(5, .slice (some ⟨g4, 0, none⟩) n n), (15, .int .i64 (i : Int)), (8, .slice (some ⟨g1, 0, none⟩) (la + 1) cp1), (7, .int .u64 (s : Int)), (119, .slice (some ⟨g4, 0, none⟩) n n), (120, .int .i64 (i : Int)), (121, .slice (some ⟨g1, 0, none⟩) (la + 1) cp1), (122, .int .i64 (i : Int)), (123, .pointer (some ⟨g1, i, none⟩)), (124, .int .u32 x), (125, .int .u64 x), (126, .slice (some ⟨g1, 0, none⟩) (la + 1) cp1), (127, .int .i64 (i : Int)), (128, .int .i64 ((i : Int) + 1)), (129, .pointer (some ⟨g1, i + 1, none⟩)), (130, .int .u32 y), (131, .int .u64 y), (132, .int .u64 (y * 4294967296)), (133, .int .u64 (x + 4294967296 * y)), (134, .int .u64 (s : Int)), (135, .int .u64 z), (136, .int .u32 v), (137, .pointer (some ⟨g4, i, none⟩))] [] [5, 15, 8, 7] (by kernel_rfl) (by rw [zN]; exact νr _) (by kernel_rfl) rfl (by decide) ?_ ?_ ?_
     ·intro T hT W hJ;simp only [zA, and_true] at hT;have fx := hJ.elim (fun h => (h.cell (p := ⟨g1, i, none⟩) hgq1).trans f0) fun h => (h.cell (p := ⟨g1, i, none⟩) hgq1).trans (by rw [κo _ _ _ _ (by simp; try omega)]; exact f0)
      have fy := hJ.elim (fun h => (h.cell (p := ⟨g1, i + 1, none⟩) hgq1).trans f1) fun h => (h.cell (p := ⟨g1, i + 1, none⟩) hgq1).trans (by rw [κo _ _ _ _ (by simp; try omega)]; exact f1)
      repeat' first | exact AllO.nil | apply AllO.cons
      all_goals (refine opT_r (mF ?_); simp [go_sem, EvT, hT, fx, fy, p0, p1, p2, p3, p4, p5, w3, w4, w5, w6, w7, hz, hmn, valT])
     ·intro T hT W hb o ho;cases ho;simp only [zA, and_true] at hT;have fz := (hb.cell (p := ⟨g4, i, none⟩) hgq4).trans f2;have fw := (hb.frozen (p := ⟨g4, i, none⟩) hgq4).trans f3;exact zCq (W' := W.setCell ⟨g4, i, none⟩ (.int .u32 v)) (by simp [go_sem, EvT, hT, fz, fw]) (uL hb _ _)
     intro wy hbw;simp (decide := true) only [putT, valT, look, Act.put, σi, σo, σs, Nat.reduceAdd, if_true, if_false];have hst := (HRR.out.stored i (.int .u32 v)).1;rw [xH] at hst;have HRR2 := η (qE hst (by rw [zN]; exact hbw));have HRU2 := η (qE (zL HRU.out (p := ⟨g4, i, none⟩) (fun e => by injection e with e; have e : g1 = g4 := e; omega) (.int .u32 v)) (by rw [zN]; exact hbw));have HBQ2 := η ((HBQ.out.setCell (p := ⟨g4, i, none⟩) hzr4 (.int .u32 v)).trans (hbw.mono HBQ.out.size));clear hbw hst HRR HRU HBQ f0 f1 f2 f3;go_wp2_with fail;go_roundg gl
     case measure => omega
     case rel =>
      refine ⟨i + 1, rs.set i v, by omega, by go_num, by rw [List.length_set]; exact hrl, ?_, HRR2.out, HRU2.out, HBQ2.out⟩;rw [aS (by rw [List.length_set]; omega), aS (by omega), List.take_set_of_le (νr _), HTK.out, HVV.out, κd, List.getElem?_set_self (by omega)]; rfl
  | succ gl =>
   have hn := HN.out;have w1 : ((gl + 1 : Nat) : Int) - 1 = (gl : Int) := by omega
   rw [w1];have w2 : decide ((0 : Int) ≤ (gl : Int)) = true := κt (by omega);obtain ⟨kn, hkn⟩ : ∃ kn, gl + n = kn := ⟨_, rfl⟩;obtain ⟨kn1, hkn1⟩ : ∃ kn1, kn + 1 = kn1 := ⟨_, rfl⟩;have p1 : IntKind.i64.wrap ((gl : Int) + (n : Int)) = (kn : Int) := by rw [IntWalk.i64_in _ (by omega)]; omega
   have p2 : IntKind.i64.wrap ((kn : Int) + 1) = (kn1 : Int) := by rw [IntWalk.i64_in _ (by omega)]; omega
   have hsl : ∀ W, _ := fun W => rD g1 (la + 1) cp1 gl kn1 (by omega) (by omega) (by omega) W
   rw [show kn1 - gl = n + 1 by omega] at hsl;obtain ⟨hz, hwl⟩ := zCg (k := gl) HRW.out (by omega) HW.out.2.2.1 HW.out.2.2.2.1 HRV.out;obtain ⟨ws, hws⟩ : ∃ ws, (R.drop gl).take (n + 1) = ws := ⟨_, rfl⟩;have hwsl : ws.length = n + 1 := by rw [← hws, κk, List.length_drop]; omega
   have KE := mY (some ⟨g1, gl, none⟩) (some ⟨g2, 0, none⟩) (cp1 - gl) cp2 ws vs wr (by rw [← hws]; exact zAa HR.out (by omega)) HVN.out.wrd (by rw [← hws]; exact (HRW.out.drop _).take _) HW.out.2.2.2.1 (by rw [HW.out.2.2.1]; omega) (by rw [hwsl, HW.out.2.2.1]) (by rw [HW.out.2.2.1]; omega) HW.out.2.2.2.2.2.1 (by rw [← hws]; exact hwl);rw [hwsl, HW.out.2.2.1] at KE;have HKE := η KE;have HZ := η hz;have HWN := η (show 0 ≤ wv ws ∧ wv ws < wv vs * 4294967296 from ⟨by rw [← hws]; exact zS ((HRW.out.drop _).take _), by rw [← hws]; exact hwl⟩);have HWS := η hws;clear KE hz hwl hws w1;go_wp2_with fail;refine HKE.out.mono ?_;rintro e w2 ⟨q, rfl, hq, hb2⟩;have KS := iK w' g1 gl (cp1 - gl) cp1 R vs (some ⟨g2, 0, none⟩) cp2 q w2 (by rw [hRl]; exact qE HR.out hb2) HRW.out (HVN.out.below hb2) HW.out.2.2.2.1 (by rw [HW.out.2.2.1, hRl]; omega) (by omega) ⟨hq.1, hq.2.1⟩;rw [hRl, HW.out.2.2.1, HWS.out] at KS;have HKS := η KS;have HQE := η hq;have HVN2 := η (HVN.out.below hb2);have HQ2 := η (qE HQ.out hb2);have HB2 := βT HB hb2;clear KS hq hb2 HVN HQ HB HR HKE;go_wp2_with fail;refine HKS.out.mono ?_;rintro e w3 ⟨ys, b, rfl, hb01, hyl, hyw, hyv, hyr, hyg⟩;rw [show gl + n + 1 = kn1 by omega] at hyr;have HV3 := η (HVN2.out.grown hyg);have HQ3 := η (sD HQ2.out hyg (by omega));have HB3 := η (HB2.out.grown hyg HB2.out.size (fun k hk => by injection hk with hk; omega));have HY := η (show ys.length = n + 1 ∧ Words ys from ⟨hyl, hyw⟩);have HYR := η hyr;have hlv := wv_lt HW.out.2.2.2.1;rw [HW.out.2.2.1] at hlv;have hly := wv_lt hyw;rw [hyl] at hly;have hbe := bp_le (show n ≤ n + 1 by omega);have hks := fun (W2 c : Int) => zBo (W2 := W2) (c := c) HQE.out (zS hyw) hly (by omega) HWN.out.1 hyv hb01
   have hks1 : b = 0 → wv ys < wv vs := (hks 0 0).1;have hks2 := fun W2 c => (hks W2 c).2
   have HK1 := η hks1;have HK2 := η hks2;clear hyr hyg hyv hlv hly hbe hks hks1 hks2 hyl hyw HVN2 HQ2 HB2 HKS HQE HWN;rcases hb01 with rfl | rfl
   ·have HLT := η (HK1.out rfl);clear HK1 HK2;rw [show ((0 : Int) != 0) = false from rfl];have hu : IntKind.u32.wrap q = IntKind.u32.wrap q := rfl;obtain ⟨d0, d1⟩ := cellW HQ3.out (k := gl) (by omega);generalize qs.getD gl 0 = old at *;have i3 : (gl : Int) < (k01 : Int) := by omega
    go_wp2_with fail;go_roundg gl
    case measure => omega
    case rel =>
     have hst := (HQ3.out.stored gl (.int .u32 (IntKind.u32.wrap q))).1;rw [xH] at hst;refine ⟨R.take gl ++ ys ++ R.drop kn1, qs.set gl (IntKind.u32.wrap q), rfl, by omega, by rw [← hkn1, ← hkn, show gl + n + 1 = gl + (n + 1) by omega, nW HY.out.1 (by omega)]; exact hRl, ((HRW.out.take _).app HY.out.2).app (HRW.out.drop _), ?_, ?_, ?_, by rw [List.length_set]; exact hql, hst, ?_⟩
     ·rw [← hkn1, ← hkn]; exact eL (by omega) HZ.out HY.out.1 HLT.out
     ·exact zL HYR.out (p := ⟨g3, gl, none⟩) (fun e => by injection e with e; have e : g1 = g3 := e; omega) _
     ·obtain ⟨b9, o9, e9, h91, h92, h93⟩ := HV3.out;injection e9 with e9; injection e9 with e91 e92; subst e91; subst e92
      exact ⟨g2, 0, rfl, by rw [zN]; exact h91, h92, fun i hi => by rw [κo _ _ _ _ (by simp; try omega)]; exact h93 i hi⟩
     ·exact HB3.out.setCell (p := ⟨g3, gl, none⟩) hwx _
   ·have HK := η (fun W2 c => HK2.out W2 c rfl);clear HK1 HK2;rw [show ((1 : Int) != 0) = true from rfl];obtain ⟨q1, hq1⟩ : ∃ q1, IntKind.u64.wrap (q - 1) = q1 := ⟨_, rfl⟩;go_wp2_with fail;refine (vQ 0 _).mono ?_;rintro e w4 ⟨rfl, rfl⟩;unfold carV;obtain ⟨bx, hbx⟩ : ∃ bx, w3.heap.size = bx := ⟨_, rfl⟩;have hc0 : (w3.alloc (.cells #[.int .u64 0] 195)).cell? ⟨bx, 0, none⟩ = some (.int .u64 0) := by rw [← hbx]; simp
    have hf0 : (w3.alloc (.cells #[.int .u64 0] 195)).frozen? ⟨bx, 0, none⟩ = false := by rw [← hbx]; simp
    have hlt0 : bx < (w3.alloc (.cells #[.int .u64 0] 195)).heap.size := by rw [← hbx]; simp
    obtain ⟨R1, hR1⟩ : ∃ R1, R.take gl ++ ys ++ R.drop kn1 = R1 := ⟨_, rfl⟩;have hR1l : R1.length = la + 1 := by rw [← hR1, ← hkn1, ← hkn, show gl + n + 1 = gl + (n + 1) by omega, nW HY.out.1 (by omega)]; exact hRl
    have hR1t : R1.take gl = R.take gl := by rw [← hR1, ← hkn1, ← hkn, show gl + n + 1 = gl + (n + 1) by omega]; exact iJ HY.out.1 (by omega)
    have hR1d : R1.drop kn1 = R.drop kn1 := by rw [← hR1, ← hkn1, ← hkn, show gl + n + 1 = gl + (n + 1) by omega]; exact oT HY.out.1 (by omega)
    have HG1 : Hid (∀ i, i < n + 1 → R1.getD (gl + i) 0 = ys.getD i 0) := fun i hi => by
     have := zAb (us := R) (k := gl) HY.out.1 (by omega);rw [show gl + (n + 1) = kn1 by omega, hR1] at this;rw [← this, κd, κd, List.getElem?_take_of_lt (by omega), List.getElem?_drop]
    have HR1 := η (HYR.out.alloc (.cells #[.int .u64 0] 195));rw [hR1] at HR1;have HQ4 := η (HQ3.out.alloc (.cells #[.int .u64 0] 195));have HV4 := η (HV3.out.below (βA (.cells #[.int .u64 0] 195)));have HB4 := η (HB3.out.alloc HB3.out.size (.cells #[.int .u64 0] 195));have hbx1 : g1 < bx := by have := (HYR.out.lt g1 rfl).2; omega
    have hbx2 : g2 < bx := by obtain ⟨b9, o9, e9, h91, _⟩ := HV3.out; injection e9 with e9; injection e9 with e91 e92; subst e91; omega
    have hbx3 : g3 < bx := by have := (HQ3.out.lt g3 rfl).2; omega
    have hbx0 : w' ≤ bx := by have := HB3.out.size; omega
    generalize (w3.alloc (.cells #[.int .u64 0] 195)) = w5 at *;rw [hbx];have HHR := η hR1;clear hbx HYR HQ3 HV3 HB3 hR1;have K := η pS;generalize wr = wo at *;go_wp2_with fail;go_loopg [13, 14, 71] n (fun g' s13 s14 s71 wr => ∃ (i : Nat) (zs : List Int) (cr : Int), i + g' = n ∧ s71 = .int .i64 (i : Int) ∧ AddI ys vs i zs cr ∧ wr.ownsRow w' 192 1 (.slice (some ⟨g1, 0, none⟩) (la + 1) cp1) (la + 1) ((R1.take gl ++ zs ++ R1.drop (gl + i)).map wV) ∧ wr.cell? ⟨bx, 0, none⟩ = some (.int .u64 cr) ∧ wr.frozen? ⟨bx, 0, none⟩ = false ∧ bx < wr ∧ WrdN wr g1 (some ⟨g2, 0, none⟩) vs ∧ wr.ownsRow g3 192 1 (.slice (some ⟨g3, 0, none⟩) k01 k01) k01 (qs.map wV) ∧ Below w' w' wr)
    case atStart => exact ⟨0, [], 0, by omega, rfl, AddI.zero _ _, by simpa using HR1.out, hc0, hf0, hlt0, HV4.out, HQ4.out, HB4.out⟩
    case round =>
     obtain ⟨i, zs, cr, hig, rfl, hA, hrow, hcx, hfx, hlx, hvn, hqn, hbn⟩ := hrel;have HA := η hA;have HRX := η hrow;have HVX := η hvn;have HQX := η hqn;have HBX := η hbn;clear hA hrow hvn hqn hbn HR1 HQ4 HV4 HB4 hc0 hf0 hlt0;cases gk with
     | zero =>
      obtain rfl : i = n := by omega
      clear hig;obtain ⟨f0, f1⟩ := cellW HRX.out (k := gl + i) (by omega);rw [nG (by omega) HA.out.len, HG1.out i (by omega)] at f0;obtain ⟨x, hx⟩ : ∃ x, ys.getD i 0 = x := ⟨_, rfl⟩;rw [hx] at f0;have hxb := HY.out.2.getD i;rw [hx] at hxb;have hcb := HA.out.c0;have hcb1 := HA.out.c1;have HST := η (HA.out.step HY.out.2 HW.out.2.2.2.1 x 0 hx (by rw [κd, List.getElem?_eq_none (by rw [HW.out.2.2.1]; omega)]; rfl));rw [Int.add_zero] at HST;have p5 : IntKind.u64.wrap x = x := κu _ (by omega);have i2 : ((gl + i : Nat) : Int) < (la : Int) + 1 := by omega
      have i4 : (kn : Int) < (la : Int) + 1 := by omega
      have HCB := η (show 0 ≤ x ∧ 0 ≤ cr ∧ x + cr < 18446744073709551616 by omega);rw [hkn] at f0 f1;clear hx hxb hcb hcb1;go_wp2_with fail;refine (K.out bx x cr wr HCB.out hcx hfx).mono ?_;rintro e w6 ⟨rfl, hw6⟩;have d2 : w6.cell? ⟨g1, kn, none⟩ = some (.int .u32 x) := by rw [hw6, κo _ _ _ _ (by simp; try omega)]; exact f0
      have d3 : w6.frozen? ⟨g1, kn, none⟩ = false := by rw [hw6, World.frozen?_setCell]; exact f1
      have d4 : w6.cell? ⟨bx, 0, none⟩ = some (.int .u64 ((x + cr) / 4294967296)) := by rw [hw6]; exact World.cell?_setCell_same _ _ _ hcx
      have d5 : w6.frozen? ⟨bx, 0, none⟩ = false := by rw [hw6, World.frozen?_setCell]; exact hfx
      have d6 : bx < w6 := by rw [hw6, zN]; exact hlx
      have HRY : Hid (w6.ownsRow w' 192 1 (.slice (some ⟨g1, 0, none⟩) (la + 1) cp1) (la + 1) ((R1.take gl ++ zs ++ R1.drop (gl + i)).map wV)) := by show World.ownsRow _ _ _ _ _ _ _; rw [hw6]; exact zL HRX.out (p := ⟨bx, 0, none⟩) (fun e => by injection e with e; have e : g1 = bx := e; omega) _
      have HQY : Hid (w6.ownsRow g3 192 1 (.slice (some ⟨g3, 0, none⟩) k01 k01) k01 (qs.map wV)) := by show World.ownsRow _ _ _ _ _ _ _; rw [hw6]; exact zL HQX.out (p := ⟨bx, 0, none⟩) (fun e => by injection e with e; have e : g3 = bx := e; omega) _
      have HVY : Hid (WrdN w6 g1 (some ⟨g2, 0, none⟩) vs) := by show WrdN _ _ _ _; rw [hw6]; exact hQ HVX.out (p := ⟨bx, 0, none⟩) (show bx ≠ g2 by omega) _
      have HBY : Hid (Below w' w' w6) := by show Below _ _ _; rw [hw6]; exact HBX.out.setCell (p := ⟨bx, 0, none⟩) hbx0 _
      clear hw6 HRX HQX HVX HBX hcx hfx hlx f0 f1;obtain ⟨z0, hz0⟩ : ∃ z0, (x + cr) % 4294967296 = z0 := ⟨_, rfl⟩;obtain ⟨c1, hc1⟩ : ∃ c1, (x + cr) / 4294967296 = c1 := ⟨_, rfl⟩;rw [hz0, hc1] at HST;rw [hc1] at d4;rw [hz0];clear hz0 hc1;go_upto_region 18 with fail
      have HRZ : Hid ((w6.setCell ⟨g1, kn, none⟩ (.int .u32 z0)).ownsRow w' 192 1 (.slice (some ⟨g1, 0, none⟩) (la + 1) cp1) (la + 1) ((R.take gl ++ (zs ++ [z0]) ++ R.drop kn1).map wV)) := by
       show World.ownsRow _ _ _ _ _ _ _
       have hst := (HRY.out.stored (gl + i) (.int .u32 z0)).1;rw [xH, gB (by omega) HA.out.len, hR1t, show gl + i + 1 = kn1 by omega, hR1d, hkn] at hst;exact hst
      have HQZ : Hid ((w6.setCell ⟨g1, kn, none⟩ (.int .u32 z0)).ownsRow g3 192 1 (.slice (some ⟨g3, 0, none⟩) k01 k01) k01 (qs.map wV)) := zL HQY.out (p := ⟨g1, kn, none⟩) (fun e => by injection e with e; have e : g3 = g1 := e; omega) _;have HVZ : Hid (WrdN (w6.setCell ⟨g1, kn, none⟩ (.int .u32 z0)) g1 (some ⟨g2, 0, none⟩) vs) := hQ HVY.out (p := ⟨g1, kn, none⟩) (show g1 ≠ g2 by omega) _;have HBZ : Hid (Below w' w' (w6.setCell ⟨g1, kn, none⟩ (.int .u32 z0))) := HBY.out.setCell (p := ⟨g1, kn, none⟩) hwg _;generalize w6.setCell ⟨g1, kn, none⟩ (.int .u32 z0) = w7 at *;have HZL : Hid ((zs ++ [z0]).length = i + 1 ∧ Words (zs ++ [z0]) ∧ wv (zs ++ [z0]) < wv vs) := by
       have h1 := HST.out;have h2 : AddI ys vs ys.length (zs ++ [z0]) c1 := by rw [HY.out.1]; exact h1
       have h3 := h2.fin (by rw [HY.out.1, HW.out.2.2.1]);rw [HY.out.1] at h3;have h4 := wv_lt h1.ok;rw [h1.len] at h4;exact ⟨h1.len, h1.ok, HK.out _ c1 h3 (zS h1.ok) h4 h1.c0 h1.c1⟩
      clear HRY HQY HVY HBY HST d2 d3 d4 d5 d6 HHR HG1 hR1t hR1d HA;generalize zs ++ [z0] = zz at *;have hu : IntKind.u32.wrap q1 = IntKind.u32.wrap q1 := rfl;obtain ⟨d0, d1⟩ := cellW HQZ.out (k := gl) (by omega);generalize qs.getD gl 0 = old at *;have i3 : (gl : Int) < (k01 : Int) := by omega
      go_wp2_with fail;go_roundg gl
      case measure => omega
      case rel =>
       have hst := (HQZ.out.stored gl (.int .u32 (IntKind.u32.wrap q1))).1;rw [xH] at hst;refine ⟨R.take gl ++ zz ++ R.drop kn1, qs.set gl (IntKind.u32.wrap q1), rfl, by omega, by rw [← hkn1, ← hkn, show gl + i + 1 = gl + (i + 1) by omega, nW HZL.out.1 (by omega)]; exact hRl, ((HRW.out.take _).app HZL.out.2.1).app (HRW.out.drop _), ?_, ?_, ?_, by rw [List.length_set]; exact hql, hst, ?_⟩
       ·rw [← hkn1, ← hkn]; exact eL (by omega) HZ.out HZL.out.1 HZL.out.2.2
       ·exact zL HRZ.out (p := ⟨g3, gl, none⟩) (fun e => by injection e with e; have e : g1 = g3 := e; omega) _
       ·obtain ⟨b9, o9, e9, h91, h92, h93⟩ := HVZ.out;injection e9 with e9; injection e9 with e91 e92; subst e91; subst e92
        exact ⟨g2, 0, rfl, by rw [zN]; exact h91, h92, fun i hi => by rw [κo _ _ _ _ (by simp; try omega)]; exact h93 i hi⟩
       ·exact HBZ.out.setCell (p := ⟨g3, gl, none⟩) hwx _
     | succ g' =>
      have hin : i < n := by omega
      have w3 : (i : Int) < (n : Int) := by omega
      obtain ⟨f0, f1⟩ := cellW HRX.out (k := gl + i) (by omega);rw [nG (by omega) HA.out.len, HG1.out i (by omega)] at f0;obtain ⟨b9, o9, e9, h91, h92, h93⟩ := HVX.out;injection e9 with e9; injection e9 with e91 e92; subst e91; subst e92
      have f2 := h93 i (by rw [HW.out.2.2.1]; exact hin);rw [Nat.zero_add] at f2;obtain ⟨x, hx⟩ : ∃ x, ys.getD i 0 = x := ⟨_, rfl⟩;obtain ⟨y, hy⟩ : ∃ y, vs.getD i 0 = y := ⟨_, rfl⟩;rw [hx] at f0;rw [hy] at f2;have hxb := HY.out.2.getD i;rw [hx] at hxb;have hyb := HW.out.2.2.2.1.getD i;rw [hy] at hyb;have hcb := HA.out.c0;have hcb1 := HA.out.c1;have HST := η (HA.out.step HY.out.2 HW.out.2.2.2.1 x y hx hy);have p5 : IntKind.u64.wrap x = x := κu _ (by omega);have p6 : IntKind.u64.wrap y = y := κu _ (by omega);have p7 : IntKind.u64.wrap (x + y) = x + y := κu _ (by omega);obtain ⟨ki, hki⟩ : ∃ ki, gl + i = ki := ⟨_, rfl⟩;have p8 : IntKind.i64.wrap ((gl : Int) + (i : Int)) = (ki : Int) := by rw [IntWalk.i64_in _ (by omega)]; omega
      have i4 : (ki : Int) < (la : Int) + 1 := by omega
      have HCB := η (show 0 ≤ x + y ∧ 0 ≤ cr ∧ x + y + cr < 18446744073709551616 by omega);rw [hki] at f0 f1;clear hx hy hxb hyb hcb hcb1 h93;go_wp2_with fail;refine (K.out bx (x + y) cr wr HCB.out hcx hfx).mono ?_;rintro e w6 ⟨rfl, hw6⟩;have d2 : w6.cell? ⟨g1, ki, none⟩ = some (.int .u32 x) := by rw [hw6, κo _ _ _ _ (by simp; try omega)]; exact f0
      have d3 : w6.frozen? ⟨g1, ki, none⟩ = false := by rw [hw6, World.frozen?_setCell]; exact f1
      have d4 : w6.cell? ⟨bx, 0, none⟩ = some (.int .u64 ((x + y + cr) / 4294967296)) := by rw [hw6]; exact World.cell?_setCell_same _ _ _ hcx
      have d5 : w6.frozen? ⟨bx, 0, none⟩ = false := by rw [hw6, World.frozen?_setCell]; exact hfx
      have d6 : bx < w6 := by rw [hw6, zN]; exact hlx
      have HRY : Hid (w6.ownsRow w' 192 1 (.slice (some ⟨g1, 0, none⟩) (la + 1) cp1) (la + 1) ((R1.take gl ++ zs ++ R1.drop (gl + i)).map wV)) := by show World.ownsRow _ _ _ _ _ _ _; rw [hw6]; exact zL HRX.out (p := ⟨bx, 0, none⟩) (fun e => by injection e with e; have e : g1 = bx := e; omega) _
      have HQY : Hid (w6.ownsRow g3 192 1 (.slice (some ⟨g3, 0, none⟩) k01 k01) k01 (qs.map wV)) := by show World.ownsRow _ _ _ _ _ _ _; rw [hw6]; exact zL HQX.out (p := ⟨bx, 0, none⟩) (fun e => by injection e with e; have e : g3 = bx := e; omega) _
      have HVY : Hid (WrdN w6 g1 (some ⟨g2, 0, none⟩) vs) := by show WrdN _ _ _ _; rw [hw6]; exact hQ HVX.out (p := ⟨bx, 0, none⟩) (show bx ≠ g2 by omega) _
      have HBY : Hid (Below w' w' w6) := by show Below _ _ _; rw [hw6]; exact HBX.out.setCell (p := ⟨bx, 0, none⟩) hbx0 _
      clear hw6 HRX HQX HVX HBX hcx hfx hlx f0 f1;go_wp2_with fail;go_roundg g'
      case measure => omega
      case rel =>
       have hst := (HRY.out.stored (gl + i) (.int .u32 ((x + y + cr) % 4294967296))).1;rw [xH, gB (by omega) HA.out.len, hki] at hst;refine ⟨i + 1, zs ++ [(x + y + cr) % 4294967296], (x + y + cr) / 4294967296, by omega, by go_num, HST.out, by rw [show gl + (i + 1) = ki + 1 by omega]; exact hst, ?_, ?_, by rw [zN]; exact d6, hQ HVY.out (p := ⟨g1, ki, none⟩) (show g1 ≠ g2 by omega) _, zL HQY.out (p := ⟨g1, ki, none⟩) (fun e => by injection e with e; have e : g3 = g1 := e; omega) _, HBY.out.setCell (p := ⟨g1, ki, none⟩) hwg _⟩
       ·rw [κo _ _ _ _ (by simp; try omega)]; exact d4
       ·rw [World.frozen?_setCell]; exact d5
end Go.Proofs.YtkfhpefmmhljmaaGreatDoor
