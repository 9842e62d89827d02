/- Texts in one: FmQ, FmH, FmI. -/
import Derived.Test.YtkfhpefmmhljmaaGreatDoorF36
set_option linter.unusedVariables false
set_option linter.unusedSimpArgs false
set_option maxHeartbeats 16000000
set_option maxRecDepth 100000
namespace Go.Proofs.YtkfhpefmmhljmaaGreatDoor
def lineT (x : Ln) : List Tk := [.op, .wd [108, 105, 110, 101], .nm x.1, .nm x.2.1, .nm x.2.2.1, .nm x.2.2.2, .cl]
def netT (x : Nt) : List Tk := .op :: .wd [110, 101, 116] :: .nm x.buses :: (x.lines.flatMap lineT ++ [.cl])
def stepT (x : St) : List Tk := [.op, .nm x.1, .nm x.2, .cl]
def bidT (b : Bd) : List Tk := .op :: .wd [98, 105, 100] :: .nm b.bus :: (b.steps.flatMap stepT ++ [.cl])
def zW (u : Un) : List Int := [u.bus, u.min, u.up, u.down, u.start, u.idle, u.spin, u.on]
def unitT (u : Un) : List Tk := .op :: .wd [117, 110, 105, 116] :: ((zW u).map .nm ++ (u.steps.flatMap stepT ++ [.cl]))
def kindW (k : Int) : Bytes := if k = 1 then [112, 108, 97, 110] else if k = 2 then [108, 111, 115, 115] else [116, 114, 105, 112]
def outT (o : Og) : List Tk := [.op, .wd (kindW o.1), .nm o.2.1, .nm o.2.2.1, .nm o.2.2.2, .cl]
theorem mQ (n : Nat) : ∀ k, 0 < k → n < 10 ^ k → (Lib.decDigits n).length ≤ k := by
 induction n using Nat.strongRecOn with
 | _ n ih =>
  intro k hk h;rw [Lib.decDigits];split
  ·simp; omega
  ·next h10 =>
   obtain ⟨k, rfl⟩ : ∃ j, k = j + 1 := ⟨k - 1, by omega⟩;have hk0 : k ≠ 0 := by intro e; subst e; simp at h; omega
   rw [Nat.pow_succ] at h;have := ih (n / 10) (by omega) k (by omega) (by omega);simp;omega
theorem qO {n : Int} (h : -2147483648 < n ∧ n < 2147483648) : (Lib.itoa n).length ≤ 11 := by
 unfold Lib.itoa;split
 ·have := mQ n.natAbs 10 (by decide) (by omega);simp;omega
 ·have := mQ n.toNat 10 (by decide) (by omega);omega
def TkSm : Tk → Prop
 | .wd t => allB isLow t = true ∧ t.length ≤ 10
 | .nm n => -2147483648 < n ∧ n < 2147483648
 | _ => True
theorem TkSm.wf {t : Tk} (h : TkSm t) : TkWf t := by
 cases t with
 | op => trivial
 | cl => trivial
 | wd t => exact ⟨h.1, by have := h.2; omega⟩
 | nm n => exact h
theorem TkSm.len {t : Tk} (h : TkSm t) : (tkStr t).length ≤ 11 := by
 cases t with
 | op => simp [tkStr]
 | cl => simp [tkStr]
 | wd t => have := h.2; simp [tkStr]; omega
 | nm n => exact qO h
theorem rS (p t : Tk) : (sepB p t).length ≤ 1 := by unfold sepB; split <;> simp
theorem xM : ∀ (l : List Tk) (o : Option Tk), (∀ t ∈ l, TkSm t) → (fmtGo o l).length ≤ 12 * l.length := by
 intro l
 induction l with
 | nil => intro o _; cases o <;> simp [fmtGo]
 | cons t l ih =>
  intro o h;have h1 := (h t (by simp)).len;have h2 := ih (some t) (fun x hx => h x (by simp [hx]));cases o with
  | none => rw [fmtGo, κa, κc]; omega
  | some p => have h3 := rS p t; rw [fmtGo, κa, κa, κc]; omega
theorem kW {l : List Tk} (h : ∀ t ∈ l, TkSm t) (hl : l.length ≤ 5000) : (fmtT l).length ≤ 65536 := by
 have := xM l none h;unfold fmtT;omega
def small (n : Int) : Prop := -2147483648 < n ∧ n < 2147483648
theorem eE {x : Nt} (hb : small x.buses) (hl : ∀ l ∈ x.lines, small l.1 ∧ small l.2.1 ∧ small l.2.2.1 ∧ small l.2.2.2) : ∀ t ∈ netT x, TkSm t := by
 intro t ht;unfold netT at ht;simp only [List.mem_cons, List.mem_append, List.mem_flatMap, List.mem_singleton] at ht;rcases ht with rfl | rfl | rfl | ⟨l, hlm, ht⟩ | rfl | h
 ·trivial
 ·exact ⟨by decide, by decide⟩
 ·exact hb
 ·obtain ⟨h1, h2, h3, h4⟩ := hl l hlm;unfold lineT at ht;simp only [List.mem_cons, List.not_mem_nil, or_false] at ht;rcases ht with rfl | rfl | rfl | rfl | rfl | rfl | rfl
  ·trivial
  ·exact ⟨by decide, by decide⟩
  ·exact h1
  ·exact h2
  ·exact h3
  ·exact h4
  ·trivial
 ·trivial
 ·cases h
theorem nD {l : List St} (h : ∀ s ∈ l, small s.1 ∧ small s.2) : ∀ t ∈ l.flatMap stepT, TkSm t := by
 intro t ht;simp only [List.mem_flatMap] at ht;obtain ⟨s, hs, ht⟩ := ht;obtain ⟨h1, h2⟩ := h s hs;unfold stepT at ht;simp only [List.mem_cons, List.not_mem_nil, or_false] at ht;rcases ht with rfl | rfl | rfl | rfl
 ·trivial
 ·exact h1
 ·exact h2
 ·trivial
theorem mV {b : Bd} (hb : small b.bus) (h : ∀ s ∈ b.steps, small s.1 ∧ small s.2) : ∀ t ∈ bidT b, TkSm t := by
 intro t ht;unfold bidT at ht;simp only [List.mem_cons, List.mem_append, List.not_mem_nil, or_false] at ht;rcases ht with rfl | rfl | rfl | ht | rfl
 ·trivial
 ·exact ⟨by decide, by decide⟩
 ·exact hb
 ·exact nD h t ht
 ·trivial
theorem mZ {u : Un} (hu : ∀ n ∈ zW u, small n) (h : ∀ s ∈ u.steps, small s.1 ∧ small s.2) : ∀ t ∈ unitT u, TkSm t := by
 intro t ht;unfold unitT at ht;simp only [List.mem_cons, List.mem_append, List.mem_map, List.not_mem_nil, or_false] at ht;rcases ht with rfl | rfl | ⟨n, hn, rfl⟩ | ht | rfl
 ·trivial
 ·exact ⟨by decide, by decide⟩
 ·exact hu n hn
 ·exact nD h t ht
 ·trivial
theorem fM {o : Og} (h : small o.2.1 ∧ small o.2.2.1 ∧ small o.2.2.2) : ∀ t ∈ outT o, TkSm t := by
 intro t ht;unfold outT at ht;simp only [List.mem_cons, List.not_mem_nil, or_false] at ht;rcases ht with rfl | rfl | rfl | rfl | rfl | rfl
 ·trivial
 ·have : allB isLow (kindW o.1) = true ∧ (kindW o.1).length ≤ 10 := by
   unfold kindW;split
   ·exact ⟨by decide, by decide⟩
   ·split
    ·exact ⟨by decide, by decide⟩
    ·exact ⟨by decide, by decide⟩
  exact this
 ·exact h.1
 ·exact h.2.1
 ·exact h.2.2
 ·trivial
theorem xC {nb : Int} {ls : List Ln} (h : zX nb ls = 0) : 1 ≤ nb ∧ nb ≤ 6 ∧ ls.length ≤ 10 ∧ ∀ l ∈ ls, small l.1 ∧ small l.2.1 ∧ small l.2.2.1 ∧ small l.2.2.2 := by
 unfold zX at h;by_cases h1 : nb < 1 ∨ 6 < nb
 ·rw [if_pos h1] at h; cases h
 rw [if_neg h1] at h;by_cases h2 : 10 < ls.length
 ·rw [if_pos h2] at h; cases h
 rw [if_neg h2] at h;by_cases h3 : ls.all (jA nb) = true
 ·refine ⟨by omega, by omega, by omega, fun l hl => ?_⟩;have h4 := List.all_eq_true.1 h3 l hl;unfold jA chk at h4;simp only [κb, κe] at h4;unfold small;omega
 ·rw [if_neg h3] at h; cases h
theorem bU {f : Int → Int → Bool} : ∀ {l : List St} {o : Option Int}, stGo f o l = 0 → ∀ s ∈ l, stOk s = true := by
 intro l
 induction l with
 | nil => intro o _ s hs; cases hs
 | cons x l ih =>
  intro o h s hs;rw [stGo] at h;by_cases h1 : (!stOk x) = true
  ·rw [if_pos h1] at h; cases h
  rw [if_neg h1] at h;by_cases h2 : (o.any fun p => !f p x.2) = true
  ·rw [if_pos h2] at h; cases h
  rw [if_neg h2] at h;rcases List.mem_cons.1 hs with rfl | hs
  ·cases h3 : stOk s
   ·rw [h3] at h1; exact absurd rfl h1
   ·rfl
  ·exact ih h s hs
theorem dC {f : Int → Int → Bool} {l : List St} (h : zP f l = 0) : 0 < l.length ∧ l.length ≤ 3 ∧ ∀ s ∈ l, small s.1 ∧ small s.2 := by
 unfold zP at h;by_cases h1 : l.length = 0
 ·rw [if_pos h1] at h; cases h
 rw [if_neg h1] at h;by_cases h2 : 3 < l.length
 ·rw [if_pos h2] at h; cases h
 rw [if_neg h2] at h;refine ⟨by omega, by omega, fun s hs => ?_⟩;have h3 := bU h s hs;unfold stOk at h3;simp only [κb, κe] at h3;unfold small;omega
theorem rM {f : Int → Int → Bool} {l : List St} (h : zP f l = 0) : qC l ≤ 3000000 := by
 unfold zP at h;by_cases h1 : l.length = 0
 ·rw [if_pos h1] at h; cases h
 rw [if_neg h1] at h;by_cases h2 : 3 < l.length
 ·rw [if_pos h2] at h; cases h
 rw [if_neg h2] at h;have h5 : ∀ s ∈ l, s.1 ≤ 1000000 := fun s hs => by
  have h3 := bU h s hs;unfold stOk at h3;simp only [κb, κe] at h3;omega
 unfold qC;have : ∀ l : List St, (∀ s ∈ l, s.1 ≤ 1000000) → (l.map (·.1)).sum ≤ l.length * 1000000 := by
  intro l
  induction l with
  | nil => intro _; simp
  | cons x l ih =>
   intro hl;have h6 := ih (fun s hs => hl s (by simp [hs]));have h7 := hl x (by simp);rw [List.map_cons, List.sum_cons, κc];omega
 have := this l h5;omega
theorem tV {b n : Int} (hn : n ≤ 6) (h : inB b n = true) : inB b 6 = true ∧ small b := by
 unfold inB at h ⊢;simp only [κb, κe] at h ⊢;unfold small;omega
theorem xY {n : Int} {b : Bd} (hn : n ≤ 6) (h : bidE n b = 0) : bidE 6 b = 0 ∧ small b.bus ∧ b.steps.length ≤ 3 ∧ ∀ s ∈ b.steps, small s.1 ∧ small s.2 := by
 unfold bidE at h;cases hb : inB b.bus n with
 | false => rw [hb] at h; cases h
 | true =>
  rw [hb] at h;obtain ⟨h1, h2⟩ := tV hn hb;have h3 : zP falls b.steps = 0 := h;obtain ⟨_, h4, h5⟩ := dC h3;exact ⟨by unfold bidE; rw [h1]; exact h3, h2, h4, h5⟩
theorem vO {n : Int} {u : Un} (hn : n ≤ 6) (h : unitE n u = 0) : unitE 6 u = 0 ∧ (∀ n ∈ zW u, small n) ∧ u.steps.length ≤ 3 ∧ ∀ s ∈ u.steps, small s.1 ∧ small s.2 := by
 unfold unitE at h;cases hb : inB u.bus n with
 | false => rw [hb] at h; cases h
 | true =>
  rw [hb] at h;replace h : (if zP rises u.steps ≠ 0 then zP rises u.steps else if vB u then 0 else 1) = 0 := h;obtain ⟨h1, h2⟩ := tV hn hb;by_cases h3 : zP rises u.steps ≠ 0
  ·rw [if_pos h3] at h; exact absurd h h3
  rw [if_neg h3] at h;have h3' : zP rises u.steps = 0 := Decidable.not_not.1 h3;obtain ⟨_, h4, h5⟩ := dC h3';cases hr : vB u with
  | false => rw [hr] at h; cases h
  | true =>
   refine ⟨by unfold unitE; rw [h1, hr, if_neg h3]; rfl, fun m hm => ?_, h4, h5⟩;have hq := rM h3';unfold vB at hr;simp only [κb, κe] at hr;have hmin : small u.min := by unfold small; omega
   unfold zW at hm;simp only [List.mem_cons, List.not_mem_nil, or_false] at hm;unfold small at h2 hmin ⊢;rcases hm with rfl | rfl | rfl | rfl | rfl | rfl | rfl | rfl
   ·exact h2
   ·exact hmin
   iterate 6 (omega)
end Go.Proofs.YtkfhpefmmhljmaaGreatDoor
namespace Go.Proofs.YtkfhpefmmhljmaaGreatDoor
open Go.RowKit
theorem xD {w w3 : World} {base : Nat} {v v' : Value} {acc : List Tk} {raws : List (List Value)} {cells : List Value} {t : Tk} {tmp : Obj} (r1 : raws.length = acc.length) (r2 : ∀ c ∈ raws, c.length = 6)
  (r3 : ∀ (i : Nat) c x, raws[i]? = some c → acc[i]? = some x → TkO w base c x) (hown : w.ownsRow base 87 6 v acc.length raws.flatten) (hx : TkO w base cells t)
  (hgrow : (w.alloc tmp).grownBy w3 v.ownBlock) (hown' : w3.ownsRow base 87 6 v' (acc.length + 1) (raws.flatten ++ cells)) : RowO TkO 87 6 w3 base v' (acc ++ [t]) := by
 refine RowO.onto (l2 := [t]) (raws2 := [cells]) TkO.own (by decide) r1 r2 (fun i c y h1 h2 => TkO.own.up (r3 i c y h1 h2) (βA _)) (hown.alloc _) rfl (fun c hc => by simp at hc; subst hc; exact hx.six.1) (fun i c y hc hy => ?_) hgrow (by simpa using hown');rcases i with _ | i
 ·simp at hc hy;subst hc;subst hy;exact TkO.own.up hx (βA _)
 ·simp at hc
theorem kN {α : Type} {E : Enc α} {t : TypeId} {n : Nat} {w : World} {base : Nat} {v : Value} {l : List α} (h : RowO E t n w base v l) : ∃ A c, v = .slice A l.length c := by
 obtain ⟨_, _, _, _, ho⟩ := h;obtain ⟨A, c, hv, _⟩ := zR ho;exact ⟨A, c, hv⟩
theorem pZ {w : World} {base : Nat} {e : TypeId} {size : Nat} {A : Option Addr} {m c : Nat} {xs : List Value} (h : w.ownsRow base e size (.slice A m c) m xs) : Src w size A m xs := by
 refine ⟨h.1, fun hm => ?_⟩;rcases h.2 with ⟨_, h0⟩ | ⟨g, cap, cur, hv, _⟩
 ·omega
 ·injection hv with hA _ _
  subst hA;refine ⟨_, rfl, fun j u hu => ?_⟩;have ha : (⟨g, 0, none⟩ : Addr).add j = ⟨g, j, none⟩ := by unfold Addr.add; split <;> simp_all
  have hj : j < m * size := by rw [← h.1]; exact (List.getElem?_eq_some_iff.1 hu).1
  rw [ha, h.cellAt j hj];exact hu
theorem uF {w : World} {base : Nat} {raws : List (List Value)} {l : List Tk} (h1 : raws.length = l.length) (h3 : ∀ (i : Nat) c x, raws[i]? = some c → l[i]? = some x → TkO w base c x) : ∀ u ∈ raws.flatten, u.oneCell' = true := by
 intro u hu;obtain ⟨c, hc, hu⟩ := List.mem_flatten.1 hu;obtain ⟨i, hi, rfl⟩ := List.mem_iff_getElem.1 hc;exact (h3 i _ l[i] (κg hi) (κg (by omega))).six.2 u hu
theorem yL {W w2 : World} {base : Nat} {e : TypeId} {size : Nat} {v : Value} {k : Nat} {xs : List Value} (hrow : W.ownsRow base e size v k xs) (hb : base ≤ W) (hgrow : W.grownBy w2 v.ownBlock) : Below base W w2 :=
 (Below.refl _ _).grown hgrow hb (fun k hk => (hrow.lt k hk).1)
theorem RowR.lit64 (w : World) (t : TypeId) (xs : List Int) (cs : Array Value) (h : cs = (xs.map (Value.int .i64)).toArray) : RowR I64E 1 (w.alloc (.cells cs t)) (w.alloc (.cells cs t)).heap.size (some ⟨w, 0, none⟩) xs := by
 refine ⟨xs.map (fun x => [.int .i64 x]), by simp, fun c hc => ?_, fun i c x hc hx => ?_, fun hn => ⟨_, 0, rfl, by simp, fun i j c v hc hv => ?_⟩⟩
 ·obtain ⟨x, _, rfl⟩ := List.mem_map.1 hc; rfl
 ·rw [List.getElem?_map, hx] at hc;injection hc with hc
  exact hc.symm
 ·rw [qP _ _ _ _ _ rfl, h];rw [List.getElem?_map, Option.map_eq_some_iff] at hc;obtain ⟨x, hx, rfl⟩ := hc;have hj : j = 0 := by have := (List.getElem?_eq_some_iff.1 hv).1; simp at this; exact this
  subst hj;simp at hv;subst hv;simp [hx]
theorem uU (ls : List Ln) : (ls.flatMap lineT).length = ls.length * 7 := by
 induction ls with
 | nil => rfl
 | cons x l ih => rw [List.flatMap_cons, κa, ih, κc]; simp [lineT]; omega
theorem sX (nb : Int) (A : Option Addr) (c : Nat) (ls : List Ln) (w : World) (hl : RowR LnE 4 w w A ls) (hk : zX nb ls = 0) :
  Calls Tryz.prog 20 #[.agg #[.int .i64 nb, .slice A ls.length c]] w (TxtE w (fmtT (netT ⟨nb, ls⟩))) := by
 obtain ⟨i0, hi, hy0, hy1, hy2⟩ := info_parts uX;have HL := η hl;obtain ⟨h1, h2, h3, h4⟩ := xC hk;have HNB : Hid (small nb) := show small nb by unfold small; omega
 have HLN := η h4;have HSM := η (eE (x := ⟨nb, ls⟩) HNB.out h4);have HLS : Hid (ls.length ≤ 10) := h3;have hlm : ls.length ≤ 10 := h3;have HX : Hid (Box (w.alloc (.cells #[.int .i64 nb, .slice A ls.length c] 24)) w [.int .i64 nb, .slice A ls.length c]) := Box.new w #[.int .i64 nb, .slice A ls.length c] _;have HB : Hid (Below w w (w.alloc (.cells #[.int .i64 nb, .slice A ls.length c] 24))) := βA _;have KC := η (yA nb A c ls (w.alloc (.cells #[.int .i64 nb, .slice A ls.length c] 24)) (RowR.lines (hl.upto LnE.keep HB.out)));rw [hk] at KC;clear hl hk h1 h2 h3 h4;go_enter Tryz.func20, Tryz.ntmps20;go_wp2_with fail;refine KC.out.mono ?_;rintro e w1 ⟨rfl, hb1⟩;have hz1 : w < w1.heap.size := νl (by simp) hb1.size;have HX1 := η (HX.out.up hb1 (by simp));have HB1 := η (HB.out.trans (hb1.mono (by simp)));clear hb1 HX HB KC;obtain ⟨q0, s0, q1, s1⟩ := sqX2 HX1.out;have KG := η (vI [110, 101, 116] (some ⟨w1, 0, none⟩) 1 [nb] (w1.alloc (.cells #[.int .i64 nb] 2)) (RowR.lit64 w1 _ [nb] _ rfl) (by simp) (fun x hx => by simp at hx; subst hx; have := HNB.out; unfold small at this; omega));go_wp2_with fail;refine KG.out.mono ?_;rintro e w2 ⟨v, rfl, hrow, hb2⟩;have hz2 : w < w2.heap.size := νl (by simp; omega) hb2.size;have HX2 := η ((HX1.out.alloc hz1 (.cells #[.int .i64 nb] 2)).up hb2 (by simp; omega));have HB2 := η ((HB1.out.alloc (κl hz1) (.cells #[.int .i64 nb] 2)).trans (hb2.mono (by simp; omega)));have HR2 := η (hrow.mono TkO.own (base' := w + 1) (by simp; omega));clear hrow hb2 HX1 HB1 KG q0 q1 s0 s1;obtain ⟨q0, s0, q1, s1⟩ := sqX2 HX2.out;go_wp2_with fail;go_loopg [5, 20] ls.length (fun gk s5 s20 wr => ∃ k : Nat, k + gk = ls.length ∧ s20 = .int .i64 (k : Int) ∧ RowO TkO 87 6 wr (w + 1) s5 (.op :: .wd [110, 101, 116] :: .nm nb :: (ls.take k).flatMap lineT) ∧ Below w w wr ∧ w < wr.heap.size)
 case atStart => exact ⟨0, by omega, rfl, HR2.out, HB2.out, hz2⟩
 case round =>
  obtain ⟨k, hkg, rfl, hrow, hbl, hzr⟩ := hrel;have HR := η hrow;have HB := η hbl;clear hrow hbl HR2 HB2 HX2 q0 q1 s0 s1;cases gk with
  | zero =>
   obtain rfl : k = ls.length := by omega
   clear hkg;rw [List.take_length] at HR;obtain ⟨acc, hacc⟩ : ∃ acc, acc = Tk.op :: .wd [110, 101, 116] :: .nm nb :: ls.flatMap lineT := ⟨_, rfl⟩;rw [← hacc] at HR;have hlen : acc.length ≤ 100 := by rw [hacc]; have h1 := uU ls; have h2 := HLS.out; simp only [κc]; omega
   have HNT : Hid (acc ++ [.cl] = netT ⟨nb, ls⟩) := by show _ = _; rw [hacc]; rfl
   clear hacc;obtain ⟨raws, r1, r2, r3, hown⟩ := HR.out;have R1 := η r1;have R2 := η r2;have R3 := η r3;have HX1 := η (show TkO wr (w + 1) _ .cl from rfl);clear r1 r2 r3;go_wp2_with (at_builtin; refine wpList_append_own _ rfl _ _ 124 rfl (w + 1) 87 i0 _ 6 88 Tryz.underlying124 hi hy0 hy1 hy2 rfl (by decide) _ _ _ rfl (hown.alloc _) ⟨wr, 0, none⟩ 1 1 [.int .u8 2, .string ⟨#[]⟩, .bool false, .slice none 0 0, .bool false, .slice none 0 0] rfl rfl (zZ _ _ _) (by simp [Value.oneCell']) (by unfold maxLen; omega) (by omega) (by simp; omega) ?_; intro v' w3 hown' hgrow _);have HR3 := η (xD (acc := acc) (t := .cl) R1.out R2.out R3.out hown HX1.out hgrow (by simpa using hown'));have HB3 := η (HB.out.trans ((zH hown hzr hgrow).mono (by omega)));have hz_w3 := hgrow.size
   (try simp at hz_w3)
   clear hown' hgrow hown R1 R2 R3 HX1 HR HB;rw [HNT.out] at HR3;obtain ⟨A3, c3, rfl⟩ := kN HR3.out;have KF := η (jY (w + 1) A3 c3 (netT ⟨nb, ls⟩) w3 HR3.out (fun t ht => (HSM.out t ht).wf) (kW HSM.out (by rw [← HNT.out]; simp; omega)) (by rw [← HNT.out]; simp; omega));go_wp2_with fail;refine KF.out.mono ?_;rintro e w4 ⟨rfl, hb4⟩;have HB4 := βT HB3 hb4;clear KF HR3 HB3 hb4;go_wp2_with fail;go_ret2;exact ⟨rfl, HB4.out⟩
  | succ g =>
   have hk : k < ls.length := by omega
   have HG := η hkg;clear hkg;obtain ⟨b, off, cc, rfl, hb, hc1, hc2, hc3⟩ := (HL.out.up LnE.keep HB.out).at_ k (0, 0, 0, 0) hk;replace hc2 : cc = _ := hc2;subst hc2;have hbw : b < wr := by omega
   have f0 := hc3 0 _ rfl;have f1 := hc3 1 _ rfl;have f2 := hc3 2 _ rfl;have f3 := hc3 3 _ rfl;rw [κz] at f0;have HSL := η (HLN.out (ls.getD k (0, 0, 0, 0)) (by rw [zM ls k _ hk]; exact List.getElem_mem hk));have HT : Hid (ls.take (k + 1) = ls.take k ++ [ls.getD k (0, 0, 0, 0)]) := by show _ = _; rw [κs hk, zM ls k _ hk]
   generalize hxx : ls.getD k (0, 0, 0, 0) = x at *;have HXX := η hxx;clear hc1 hc3 hxx;have HXL : Hid (RowR I64E 1 ((wr.alloc (.cells #[.int .i64 x.1, .int .i64 x.2.1, .int .i64 x.2.2.1, .int .i64 x.2.2.2] 127)).alloc (.cells #[.int .i64 x.1, .int .i64 x.2.1, .int .i64 x.2.2.1, .int .i64 x.2.2.2] 2)) ((wr.alloc (.cells #[.int .i64 x.1, .int .i64 x.2.1, .int .i64 x.2.2.1, .int .i64 x.2.2.2] 127)).alloc (.cells #[.int .i64 x.1, .int .i64 x.2.1, .int .i64 x.2.2.1, .int .i64 x.2.2.2] 2)).heap.size (some ⟨wr + 1, 0, none⟩) [x.1, x.2.1, x.2.2.1, x.2.2.2]) := by
    have := RowR.lit64 (wr.alloc (.cells #[.int .i64 x.1, .int .i64 x.2.1, .int .i64 x.2.2.1, .int .i64 x.2.2.2] 127)) 2 [x.1, x.2.1, x.2.2.1, x.2.2.2] #[.int .i64 x.1, .int .i64 x.2.1, .int .i64 x.2.2.1, .int .i64 x.2.2.2] rfl;show RowR _ _ _ _ _ _
    simpa using this
   have KG := η (vI [108, 105, 110, 101] (some ⟨wr + 1, 0, none⟩) 4 [x.1, x.2.1, x.2.2.1, x.2.2.2] ((wr.alloc (.cells #[.int .i64 x.1, .int .i64 x.2.1, .int .i64 x.2.2.1, .int .i64 x.2.2.2] 127)).alloc (.cells #[.int .i64 x.1, .int .i64 x.2.1, .int .i64 x.2.2.1, .int .i64 x.2.2.2] 2)) HXL.out (by simp) (fun y hy => by have := HSL.out; unfold small at this; simp at hy; omega));have HB5 : Hid (Below w w ((wr.alloc (.cells #[.int .i64 x.1, .int .i64 x.2.1, .int .i64 x.2.2.1, .int .i64 x.2.2.2] 127)).alloc (.cells #[.int .i64 x.1, .int .i64 x.2.1, .int .i64 x.2.2.1, .int .i64 x.2.2.2] 2))) := (HB.out.alloc (κl hzr) _).alloc (by simp; omega) _;have HR5 := η (HR.out.below TkO.own (w' := ((wr.alloc (.cells #[.int .i64 x.1, .int .i64 x.2.1, .int .i64 x.2.2.1, .int .i64 x.2.2.2] 127)).alloc (.cells #[.int .i64 x.1, .int .i64 x.2.1, .int .i64 x.2.2.1, .int .i64 x.2.2.2] 2))) ((βA _).alloc (by simp) _));clear HR HB HXL;go_wp2_with fail;refine KG.out.mono ?_;rintro e w6 ⟨v6, rfl, hrow6, hb6⟩;have hz6 : w < w6.heap.size := νl (by simp; omega) hb6.size;have HR6 := η (HR5.out.below TkO.own hb6);have HB6 := η (HB5.out.trans (hb6.mono (by simp; omega)));have HS6 := η (hrow6.mono TkO.own (base' := w + 1) (by simp; omega));clear hrow6 hb6 HR5 HB5 KG f0 f1 f2 f3;obtain ⟨acc, hacc⟩ : ∃ acc, acc = Tk.op :: .wd [110, 101, 116] :: .nm nb :: (ls.take k).flatMap lineT := ⟨_, rfl⟩;rw [← hacc] at HR6;have hlen : acc.length ≤ 100 := by rw [hacc]; have h1 := uU (ls.take k); have h2 := HLS.out; rw [κk] at h1; simp only [κc]; omega
   obtain ⟨l2, hl2⟩ : ∃ l2, l2 = Tk.op :: .wd [108, 105, 110, 101] :: [x.1, x.2.1, x.2.2.1, x.2.2.2].map .nm := ⟨_, rfl⟩;rw [← hl2] at HS6;have hlen2 : l2.length ≤ 6 := by rw [hl2]; exact νr _
   obtain ⟨A6, c6, rfl⟩ := kN HS6.out;have HAC : Hid (acc ++ l2 ++ [.cl] = Tk.op :: .wd [110, 101, 116] :: .nm nb :: (ls.take (k + 1)).flatMap lineT) := by show _ = _; rw [hacc, hl2, HT.out, List.flatMap_append]; simp [lineT]
   clear hacc hl2;obtain ⟨raws, r1, r2, r3, hown⟩ := HR6.out;have R1 := η r1;have R2 := η r2;have R3 := η r3;obtain ⟨raws2, s1, s2, s3, hown2⟩ := HS6.out;have S1 := η s1;have S2 := η s2;have S3 := η s3;clear r1 r2 r3 s1 s2 s3;go_upto_region 9 with (at_builtin; refine qX _ rfl _ _ 124 rfl (w + 1) 87 i0 _ 6 88 Tryz.underlying124 hi hy0 hy1 hy2 rfl (by decide) _ _ _ rfl hown A6 (l2).length c6 raws2.flatten rfl (pZ hown2) (uF S1.out S3.out) (by unfold maxLen; omega) (by omega) (by omega) ?_; intro v' w7 hown' hgrow _)
   have HR7 := η (RowO.onto (l := acc) (l2 := l2) TkO.own (by decide) R1.out R2.out R3.out hown S1.out S2.out S3.out hgrow hown');have HB7 := η (HB6.out.trans ((yL hown hz6 hgrow).mono (by omega)));have hz_w7 := hgrow.size;clear hown' hgrow hown hown2 R1 R2 R3 S1 S2 S3 HR6 HS6 HB6;have hz7 : w < w7.heap.size := by omega
   obtain ⟨ac2, hac2⟩ : ∃ a, a = acc ++ l2 := ⟨_, rfl⟩;rw [← hac2] at HR7 HAC;have hlen3 : ac2.length ≤ 106 := by rw [hac2]; simp; omega
   clear hac2 hlen hlen2;obtain ⟨raws, r1, r2, r3, hown⟩ := HR7.out;have R1 := η r1;have R2 := η r2;have R3 := η r3;have HX1 := η (show TkO w7 (w + 1) _ .cl from rfl);clear r1 r2 r3;go_wp2_with (at_builtin; refine wpList_append_own _ rfl _ _ 124 rfl (w + 1) 87 i0 _ 6 88 Tryz.underlying124 hi hy0 hy1 hy2 rfl (by decide) _ _ _ rfl (hown.alloc _) ⟨w7, 0, none⟩ 1 1 [.int .u8 2, .string ⟨#[]⟩, .bool false, .slice none 0 0, .bool false, .slice none 0 0] rfl rfl (zZ _ _ _) (by simp [Value.oneCell']) (by unfold maxLen; omega) (by omega) (by simp; omega) ?_; intro v' w8 hown' hgrow _);have HR8 := η (xD (acc := ac2) (t := .cl) R1.out R2.out R3.out hown HX1.out hgrow (by simpa using hown'));have HB8 := η (HB7.out.trans ((zH hown hz7 hgrow).mono (by omega)));have hz_w8 := hgrow.size
   (try simp at hz_w8)
   clear hown' hgrow hown R1 R2 R3 HX1 HR7 HB7;rw [HAC.out] at HR8;go_wp2_with fail;go_roundg g
   case measure => omega
   case rel => exact ⟨k + 1, by have := HG.out; omega, by go_num, HR8.out, HB8.out, by omega⟩
theorem sW (o : Og) (w : World) (hk : o.1 = 1 ∨ o.1 = 2 ∨ o.1 = 3) (hv : qG o = true) :
  Calls Tryz.prog 26 #[.agg #[.int .u8 o.1, .int .i64 o.2.1, .int .i64 o.2.2.1, .int .i64 o.2.2.2]] w (TxtE w (fmtT (outT o))) := by
 obtain ⟨i0, hi, hy0, hy1, hy2⟩ := info_parts uX;obtain ⟨k, a, f, t⟩ := o;have HS : Hid (small a ∧ small f ∧ small t) := by
  show _ ∧ _
  have h := hv;unfold qG at h;simp only [κb, κe] at h;unfold small;split at h <;> omega
 dsimp only at hk ⊢;rcases hk with rfl | rfl | rfl
 ·have HX : Hid (Box (w.alloc (.cells #[.int .u8 1, .int .i64 a, .int .i64 f, .int .i64 t] 53)) w [.int .u8 1, .int .i64 a, .int .i64 f, .int .i64 t]) := Box.new w #[.int .u8 1, .int .i64 a, .int .i64 f, .int .i64 t] _;have HB : Hid (Below w w (w.alloc (.cells #[.int .u8 1, .int .i64 a, .int .i64 f, .int .i64 t] 53))) := βA _;have KV := η (kJ 1 a f t (w.alloc (.cells #[.int .u8 1, .int .i64 a, .int .i64 f, .int .i64 t] 53)));rw [hv] at KV;have HOT : Hid ([.op, .wd [112, 108, 97, 110], .nm a, .nm f, .nm t] ++ [.cl] = outT (1, a, f, t)) := rfl;have HSM := η (fM (o := (1, a, f, t)) HS.out);clear hv;go_enter Tryz.func26, Tryz.ntmps26;go_wp2_with fail;refine KV.out.mono ?_;rintro e w1 ⟨rfl, hb1⟩;have hz1 : w < w1.heap.size := νl (by simp) hb1.size;have HX1 := η (HX.out.up hb1 (by simp));have HB1 := η (HB.out.trans (hb1.mono (by simp)));clear hb1 HX HB KV;obtain ⟨q0, s0, q1, s1, q2, s2, q3, s3⟩ := sqX4 HX1.out;have KG := η (vI [112, 108, 97, 110] (some ⟨w1, 0, none⟩) 3 [a, f, t] (w1.alloc (.cells #[.int .i64 a, .int .i64 f, .int .i64 t] 2)) (RowR.lit64 w1 _ [a, f, t] _ rfl) (by simp) (fun x hx => by have := HS.out; unfold small at this; simp at hx; omega));go_wp2_with fail;refine KG.out.mono ?_;rintro e w2 ⟨v, rfl, hrow, hb2⟩;have hz2 : w + 1 ≤ w2.heap.size := Nat.le_trans (by simp; omega) hb2.size;have HB2 := η ((HB1.out.alloc (κl hz1) (.cells #[.int .i64 a, .int .i64 f, .int .i64 t] 2)).trans (hb2.mono (by simp; omega)));have HR2 := η (hrow.mono TkO.own (base' := w + 1) (by simp; omega));clear hrow hb2 HX1 HB1 KG q0 q1 q2 q3 s0 s1 s2 s3;obtain ⟨acc, hacc⟩ : ∃ acc, acc = Tk.op :: .wd [112, 108, 97, 110] :: [a, f, t].map .nm := ⟨_, rfl⟩;rw [← hacc] at HR2;have hlen : acc.length ≤ 6 := by rw [hacc]; simp
  have HNT : Hid (acc ++ [.cl] = outT (1, a, f, t)) := by show _ = _; rw [hacc]; exact HOT.out
  clear hacc;obtain ⟨raws, r1, r2, r3, hown⟩ := HR2.out;have R1 := η r1;have R2 := η r2;have R3 := η r3;have HX1 := η (show TkO w2 (w + 1) _ .cl from rfl);clear r1 r2 r3;go_upto_region 14 with (at_builtin; refine wpList_append_own _ rfl _ _ 124 rfl (w + 1) 87 i0 _ 6 88 Tryz.underlying124 hi hy0 hy1 hy2 rfl (by decide) _ _ _ rfl (hown.alloc _) ⟨w2, 0, none⟩ 1 1 [.int .u8 2, .string ⟨#[]⟩, .bool false, .slice none 0 0, .bool false, .slice none 0 0] rfl rfl (zZ _ _ _) (by simp [Value.oneCell']) (by unfold maxLen; omega) (by omega) (by simp; omega) ?_; intro v' w3 hown' hgrow _)
  have HR3 := η (xD (acc := acc) (t := .cl) R1.out R2.out R3.out hown HX1.out hgrow (by simpa using hown'));have HB3 := η (HB2.out.trans ((zH hown hz2 hgrow).mono (by omega)));have hz_w3 := hgrow.size
  (try simp at hz_w3)
  clear hown' hgrow hown R1 R2 R3 HX1 HR2 HB2;rw [HNT.out] at HR3;obtain ⟨A3, c3, rfl⟩ := kN HR3.out;have KF := η (jY (w + 1) A3 c3 (outT (1, a, f, t)) w3 HR3.out (fun t ht => (HSM.out t ht).wf) (kW HSM.out (by rw [← HNT.out]; simp; omega)) (by rw [← HNT.out]; simp; omega));go_wp2_with fail;refine KF.out.mono ?_;rintro e w4 ⟨rfl, hb4⟩;have HB4 := βT HB3 hb4;clear KF HR3 HB3 hb4;go_wp2_with fail;go_ret2;exact ⟨rfl, HB4.out⟩
 ·have HX : Hid (Box (w.alloc (.cells #[.int .u8 2, .int .i64 a, .int .i64 f, .int .i64 t] 53)) w [.int .u8 2, .int .i64 a, .int .i64 f, .int .i64 t]) := Box.new w #[.int .u8 2, .int .i64 a, .int .i64 f, .int .i64 t] _;have HB : Hid (Below w w (w.alloc (.cells #[.int .u8 2, .int .i64 a, .int .i64 f, .int .i64 t] 53))) := βA _;have KV := η (kJ 2 a f t (w.alloc (.cells #[.int .u8 2, .int .i64 a, .int .i64 f, .int .i64 t] 53)));rw [hv] at KV;have HOT : Hid ([.op, .wd [108, 111, 115, 115], .nm a, .nm f, .nm t] ++ [.cl] = outT (2, a, f, t)) := rfl;have HSM := η (fM (o := (2, a, f, t)) HS.out);clear hv;go_enter Tryz.func26, Tryz.ntmps26;go_wp2_with fail;refine KV.out.mono ?_;rintro e w1 ⟨rfl, hb1⟩;have hz1 : w < w1.heap.size := νl (by simp) hb1.size;have HX1 := η (HX.out.up hb1 (by simp));have HB1 := η (HB.out.trans (hb1.mono (by simp)));clear hb1 HX HB KV;obtain ⟨q0, s0, q1, s1, q2, s2, q3, s3⟩ := sqX4 HX1.out;have KG := η (vI [108, 111, 115, 115] (some ⟨w1, 0, none⟩) 3 [a, f, t] (w1.alloc (.cells #[.int .i64 a, .int .i64 f, .int .i64 t] 2)) (RowR.lit64 w1 _ [a, f, t] _ rfl) (by simp) (fun x hx => by have := HS.out; unfold small at this; simp at hx; omega));go_wp2_with fail;refine KG.out.mono ?_;rintro e w2 ⟨v, rfl, hrow, hb2⟩;have hz2 : w + 1 ≤ w2.heap.size := Nat.le_trans (by simp; omega) hb2.size;have HB2 := η ((HB1.out.alloc (κl hz1) (.cells #[.int .i64 a, .int .i64 f, .int .i64 t] 2)).trans (hb2.mono (by simp; omega)));have HR2 := η (hrow.mono TkO.own (base' := w + 1) (by simp; omega));clear hrow hb2 HX1 HB1 KG q0 q1 q2 q3 s0 s1 s2 s3;obtain ⟨acc, hacc⟩ : ∃ acc, acc = Tk.op :: .wd [108, 111, 115, 115] :: [a, f, t].map .nm := ⟨_, rfl⟩;rw [← hacc] at HR2;have hlen : acc.length ≤ 6 := by rw [hacc]; simp
  have HNT : Hid (acc ++ [.cl] = outT (2, a, f, t)) := by show _ = _; rw [hacc]; exact HOT.out
  clear hacc;obtain ⟨raws, r1, r2, r3, hown⟩ := HR2.out;have R1 := η r1;have R2 := η r2;have R3 := η r3;have HX1 := η (show TkO w2 (w + 1) _ .cl from rfl);clear r1 r2 r3;go_upto_region 14 with (at_builtin; refine wpList_append_own _ rfl _ _ 124 rfl (w + 1) 87 i0 _ 6 88 Tryz.underlying124 hi hy0 hy1 hy2 rfl (by decide) _ _ _ rfl (hown.alloc _) ⟨w2, 0, none⟩ 1 1 [.int .u8 2, .string ⟨#[]⟩, .bool false, .slice none 0 0, .bool false, .slice none 0 0] rfl rfl (zZ _ _ _) (by simp [Value.oneCell']) (by unfold maxLen; omega) (by omega) (by simp; omega) ?_; intro v' w3 hown' hgrow _)
  have HR3 := η (xD (acc := acc) (t := .cl) R1.out R2.out R3.out hown HX1.out hgrow (by simpa using hown'));have HB3 := η (HB2.out.trans ((zH hown hz2 hgrow).mono (by omega)));have hz_w3 := hgrow.size
  (try simp at hz_w3)
  clear hown' hgrow hown R1 R2 R3 HX1 HR2 HB2;rw [HNT.out] at HR3;obtain ⟨A3, c3, rfl⟩ := kN HR3.out;have KF := η (jY (w + 1) A3 c3 (outT (2, a, f, t)) w3 HR3.out (fun t ht => (HSM.out t ht).wf) (kW HSM.out (by rw [← HNT.out]; simp; omega)) (by rw [← HNT.out]; simp; omega));go_wp2_with fail;refine KF.out.mono ?_;rintro e w4 ⟨rfl, hb4⟩;have HB4 := βT HB3 hb4;clear KF HR3 HB3 hb4;go_wp2_with fail;go_ret2;exact ⟨rfl, HB4.out⟩
 ·have HX : Hid (Box (w.alloc (.cells #[.int .u8 3, .int .i64 a, .int .i64 f, .int .i64 t] 53)) w [.int .u8 3, .int .i64 a, .int .i64 f, .int .i64 t]) := Box.new w #[.int .u8 3, .int .i64 a, .int .i64 f, .int .i64 t] _;have HB : Hid (Below w w (w.alloc (.cells #[.int .u8 3, .int .i64 a, .int .i64 f, .int .i64 t] 53))) := βA _;have KV := η (kJ 3 a f t (w.alloc (.cells #[.int .u8 3, .int .i64 a, .int .i64 f, .int .i64 t] 53)));rw [hv] at KV;have HOT : Hid ([.op, .wd [116, 114, 105, 112], .nm a, .nm f, .nm t] ++ [.cl] = outT (3, a, f, t)) := rfl;have HSM := η (fM (o := (3, a, f, t)) HS.out);clear hv;go_enter Tryz.func26, Tryz.ntmps26;go_wp2_with fail;refine KV.out.mono ?_;rintro e w1 ⟨rfl, hb1⟩;have hz1 : w < w1.heap.size := νl (by simp) hb1.size;have HX1 := η (HX.out.up hb1 (by simp));have HB1 := η (HB.out.trans (hb1.mono (by simp)));clear hb1 HX HB KV;obtain ⟨q0, s0, q1, s1, q2, s2, q3, s3⟩ := sqX4 HX1.out;have KG := η (vI [116, 114, 105, 112] (some ⟨w1, 0, none⟩) 3 [a, f, t] (w1.alloc (.cells #[.int .i64 a, .int .i64 f, .int .i64 t] 2)) (RowR.lit64 w1 _ [a, f, t] _ rfl) (by simp) (fun x hx => by have := HS.out; unfold small at this; simp at hx; omega));go_wp2_with fail;refine KG.out.mono ?_;rintro e w2 ⟨v, rfl, hrow, hb2⟩;have hz2 : w + 1 ≤ w2.heap.size := Nat.le_trans (by simp; omega) hb2.size;have HB2 := η ((HB1.out.alloc (κl hz1) (.cells #[.int .i64 a, .int .i64 f, .int .i64 t] 2)).trans (hb2.mono (by simp; omega)));have HR2 := η (hrow.mono TkO.own (base' := w + 1) (by simp; omega));clear hrow hb2 HX1 HB1 KG q0 q1 q2 q3 s0 s1 s2 s3;obtain ⟨acc, hacc⟩ : ∃ acc, acc = Tk.op :: .wd [116, 114, 105, 112] :: [a, f, t].map .nm := ⟨_, rfl⟩;rw [← hacc] at HR2;have hlen : acc.length ≤ 6 := by rw [hacc]; simp
  have HNT : Hid (acc ++ [.cl] = outT (3, a, f, t)) := by show _ = _; rw [hacc]; exact HOT.out
  clear hacc;obtain ⟨raws, r1, r2, r3, hown⟩ := HR2.out;have R1 := η r1;have R2 := η r2;have R3 := η r3;have HX1 := η (show TkO w2 (w + 1) _ .cl from rfl);clear r1 r2 r3;go_upto_region 14 with (at_builtin; refine wpList_append_own _ rfl _ _ 124 rfl (w + 1) 87 i0 _ 6 88 Tryz.underlying124 hi hy0 hy1 hy2 rfl (by decide) _ _ _ rfl (hown.alloc _) ⟨w2, 0, none⟩ 1 1 [.int .u8 2, .string ⟨#[]⟩, .bool false, .slice none 0 0, .bool false, .slice none 0 0] rfl rfl (zZ _ _ _) (by simp [Value.oneCell']) (by unfold maxLen; omega) (by omega) (by simp; omega) ?_; intro v' w3 hown' hgrow _)
  have HR3 := η (xD (acc := acc) (t := .cl) R1.out R2.out R3.out hown HX1.out hgrow (by simpa using hown'));have HB3 := η (HB2.out.trans ((zH hown hz2 hgrow).mono (by omega)));have hz_w3 := hgrow.size
  (try simp at hz_w3)
  clear hown' hgrow hown R1 R2 R3 HX1 HR2 HB2;rw [HNT.out] at HR3;obtain ⟨A3, c3, rfl⟩ := kN HR3.out;have KF := η (jY (w + 1) A3 c3 (outT (3, a, f, t)) w3 HR3.out (fun t ht => (HSM.out t ht).wf) (kW HSM.out (by rw [← HNT.out]; simp; omega)) (by rw [← HNT.out]; simp; omega));go_wp2_with fail;refine KF.out.mono ?_;rintro e w4 ⟨rfl, hb4⟩;have HB4 := βT HB3 hb4;clear KF HR3 HB3 hb4;go_wp2_with fail;go_ret2;exact ⟨rfl, HB4.out⟩
end Go.Proofs.YtkfhpefmmhljmaaGreatDoor
