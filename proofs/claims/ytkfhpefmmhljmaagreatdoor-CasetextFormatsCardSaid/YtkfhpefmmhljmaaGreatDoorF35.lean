/- Texts in one: FmD, FmE, FmF. -/
import Derived.Lib.SliceRun
import Derived.Test.YtkfhpefmmhljmaaGreatDoorF34
set_option linter.unusedVariables false
set_option linter.unusedSimpArgs false
set_option maxHeartbeats 16000000
set_option maxRecDepth 100000
namespace Go.Proofs.YtkfhpefmmhljmaaGreatDoor
open Go.RowKit
theorem WrdR.toSrc {w : World} {B : Nat} {A : Option Addr} {ws : List Int} (h : WrdR w B A ws) : Src w 1 A ws.length (ws.map wV) := by
  refine ⟨by simp, fun hp => ?_⟩
  obtain ⟨b, off, rfl, _, hc⟩ := h hp
  refine ⟨_, rfl, fun j v hv => ?_⟩
  rw [List.getElem?_map, Option.map_eq_some_iff] at hv
  obtain ⟨x, hx, rfl⟩ := hv
  have hj : j < ws.length := (List.getElem?_eq_some_iff.1 hx).1
  have := hc j hj
  rw [κd, hx] at this
  have ha : (⟨b, off, none⟩ : Addr).add j = ⟨b, off + j, none⟩ := by unfold Addr.add; split <;> simp_all
  rw [ha]
  exact this
theorem eA (xs : List Int) : ∀ u ∈ xs.map wV, u.oneCell' = true := by
  intro u hu
  rw [List.mem_map] at hu
  obtain ⟨x, _, rfl⟩ := hu
  rfl
theorem gZ (A : Option Addr) (c : Nat) (ws : List Int) (w : World) (hl : WrdR w w A ws) (hm : ws.length ≤ 1000000) :
    Calls Tryz.prog 212 #[.slice A ws.length c] w fun e w' => ∃ v, e = .returned v ∧ w'.ownsRow w 192 1 v ws.length (ws.map wV) ∧ Below w w w' := by
  obtain ⟨j0, hj, hy0, hy1, hy2⟩ := info_parts eK
  have HL := η hl
  clear hl
  have q22 : ∀ (w : World) (a : Option Addr) (n c n' c' : Nat), (binOp .eql 81 (.slice a n c) (.slice none n' c')).run Tryz.prog w = .ok (.bool a.isNone) w := fun w a n c n' c' => Lib.run_eql_slice_nil w _ _ a n c n' c' Tryz.underlying81
  cases A with
  | none =>
    have h0 : ws.length = 0 := by
      by_cases h : 0 < ws.length
      · obtain ⟨b, off, e, _⟩ := HL.out h
        simp at e
      · omega
    obtain rfl : ws = [] := List.eq_nil_of_length_eq_zero h0
    go_enter Tryz.func212, Tryz.ntmps212
    go_wp2_with fail
    go_ret
    exact ⟨_, rfl, World.ownsRow_nil _ _ _ _, Below.refl _ _⟩
  | some p =>
    go_enter Tryz.func212, Tryz.ntmps212
    go_wp2_with (at_builtin; refine qX _ rfl _ _ _ rfl w 192 j0 _ 1 4 Tryz.underlying81 hj hy0 hy1 hy2 rfl (by omega) _ _ _ rfl (World.ownsRow_made w #[] 0 (νr _) (Nat.zero_le _) rfl) (some p) ws.length c (ws.map wV) rfl (HL.out.upto (βA _)).toSrc (eA _) (by simp only [maxLen]; omega) (by omega) (by simp) ?_; intro v' w1 hown hgrow hnil)
    go_ret
    refine ⟨v', rfl, by simpa using hown, ?_⟩
    exact ((Below.refl _ w).alloc (νr _) _).grown hgrow (by simp) (fun k hk => by have hk2 : some w.heap.size = some k := hk; injection hk2 with hk2; omega)
theorem tP (x : Int) (hx : 0 ≤ x ∧ x < 4294967296) : bits .or .u64 0 x = x := by
  obtain ⟨a, ha⟩ : ∃ a : Nat, x = a := ⟨x.toNat, by omega⟩
  subst ha
  unfold bits
  have e1 : (BitVec.ofInt IntKind.u64.bits (a : Int)).toNat = a := by
    rw [BitVec.ofInt_natCast, BitVec.toNat_ofNat]
    exact Nat.mod_eq_of_lt (by show a < 2 ^ 64; have h4 : (2 : Nat) ^ 64 = 18446744073709551616 := by decide
                               omega)
  simp only []
  rw [BitVec.toNat_or, e1]
  have e2 : (BitVec.ofInt IntKind.u64.bits 0).toNat = 0 := by decide
  rw [e2, Nat.zero_or, κu _ (by omega)]
theorem fG (g c : Nat) (x : Int) (w : World) (hx : 0 ≤ x ∧ x < 4294967296) (hc : w.cell? ⟨g, 0, none⟩ = some (.int .u32 x)) (hf : w.frozen? ⟨g, 0, none⟩ = false) :
    Calls Tryz.prog 213 #[.slice (some ⟨g, 0, none⟩) 1 c, .int .u64 1000000000] w fun e w' => e = .returned (.int .u64 (x % 1000000000)) ∧ w' = w.setCell ⟨g, 0, none⟩ (.int .u32 (x / 1000000000)) := by
  have HX := η hx
  obtain ⟨hx0, hx1⟩ := hx
  have p1 : IntKind.u64.wrap x = x := κu _ (by omega)
  have p2 : IntKind.u32.wrap (x / 1000000000) = x / 1000000000 := IntWalk.u32_in _ (by omega)
  go_enter Tryz.func213, Tryz.ntmps213
  go_wp2_with fail
  go_loopg [5, 6, 7] 1 (fun g' s5 s6 s7 wr => (g' = 1 ∧ s5 = .int .u64 0 ∧ s6 = .int .i64 0 ∧ wr = w) ∨ (g' = 0 ∧ s5 = .int .u64 (x % 1000000000) ∧ s6 = .int .i64 (-1) ∧ wr = w.setCell ⟨g, 0, none⟩ (.int .u32 (x / 1000000000))))
  case atStart => exact .inl ⟨rfl, rfl, rfl, rfl⟩
  case round =>
    rcases hrel with ⟨rfl, rfl, rfl, rfl⟩ | ⟨rfl, rfl, rfl, rfl⟩
    · go_wp2_with fail
      go_roundg 0
      case measure => omega
      case rel =>
        have hb := tP x HX.out
        have h2 : IntKind.u64.wrap (x.tdiv 1000000000) = x / 1000000000 := by rw [Int.tdiv_eq_ediv_of_nonneg HX.out.1]; exact κu _ (by have := HX.out; omega)
        refine .inr ⟨rfl, ?_, rfl, ?_⟩
        · rw [hb, Int.tmod_eq_emod_of_nonneg HX.out.1]
        · rw [hb, h2, Int.emod_eq_of_lt (by have := HX.out; omega) (by have := HX.out; omega)]
    · go_wp2_with fail
      go_ret
      exact ⟨rfl, rfl⟩
theorem qS {w w' : World} {base : Nat} {e : TypeId} {size : Nat} {v : Value} {n : Nat} {xs : List Value} (h : w.ownsRow base e size v n xs) (hb : Below w w w') : w'.ownsRow base e size v n xs := by
  refine ⟨h.1, ?_⟩
  rcases h.2 with h5 | ⟨g, cap, cur, h5, h6, h7, h8⟩
  · exact .inl h5
  · exact .inr ⟨g, cap, cur, h5, h6, (hb.block g (κi h7).1).trans h7, h8⟩
def bV (x : Int) : Value := .int .u8 x
def RevAt (xs ys : List Int) (k : Nat) : Prop := ys.length = xs.length ∧ ∀ i, i < xs.length → ys[i]? = if i < k ∨ xs.length - 1 - i < k then xs[xs.length - 1 - i]? else xs[i]?
theorem RevAt.zero (xs : List Int) : RevAt xs xs 0 := ⟨rfl, fun i hi => by rw [if_neg (by omega)]⟩
theorem RevAt.ends {xs ys : List Int} {k : Nat} (h : RevAt xs ys k) (h2 : xs.length - 1 ≤ 2 * k) : ys = xs.reverse := by
  apply List.ext_getElem?
  intro i
  rcases Nat.lt_or_ge i xs.length with hi | hi
  · rw [h.2 i hi, List.getElem?_reverse hi]
    by_cases hc : i < k ∨ xs.length - 1 - i < k
    · rw [if_pos hc]
    · rw [if_neg hc, show xs.length - 1 - i = i by omega]
  · rw [List.getElem?_eq_none (by rw [h.1]; exact hi), List.getElem?_eq_none (by simpa using hi)]
theorem RevAt.step {xs ys : List Int} {k : Nat} (h : RevAt xs ys k) (hk : k < xs.length - 1 - k) : RevAt xs ((ys.set k (ys.getD (xs.length - 1 - k) 0)).set (xs.length - 1 - k) (ys.getD k 0)) (k + 1) := by
  have hl := h.1
  have a1 : ys[k]? = some (ys.getD k 0) := by rw [zM ys k 0 (by omega)]; exact κg _
  have a2 : ys[xs.length - 1 - k]? = some (ys.getD (xs.length - 1 - k) 0) := by rw [zM ys _ 0 (by omega)]; exact κg _
  have b1 := h.2 k (by omega)
  have b2 := h.2 (xs.length - 1 - k) (by omega)
  rw [if_neg (by omega)] at b1 b2
  refine ⟨by simp [hl], fun i hi => ?_⟩
  by_cases e1 : i = xs.length - 1 - k
  · subst e1
    rw [List.getElem?_set_self (by simp; omega), if_pos (by omega), ← a1, b1, show xs.length - 1 - (xs.length - 1 - k) = k by omega]
  · rw [List.getElem?_set_ne (by omega)]
    by_cases e2 : i = k
    · subst e2
      rw [List.getElem?_set_self (by omega), if_pos (by omega), ← a2, b2]
    · rw [List.getElem?_set_ne (by omega), h.2 i hi]
      by_cases hc : i < k ∨ xs.length - 1 - i < k
      · rw [if_pos hc, if_pos (by omega)]
      · rw [if_neg hc, if_neg (by omega)]
theorem uM (base : Nat) (g cap : Nat) (xs : List Int) (w : World) (h : w.ownsRow base 5 1 (.slice (some ⟨g, 0, none⟩) xs.length cap) xs.length (xs.map bV)) (hn : xs.length ≤ 1000000) :
    Calls Tryz.prog 214 #[.slice (some ⟨g, 0, none⟩) xs.length cap] w fun e w' => e = .returned (.tuple #[]) ∧ w'.ownsRow base 5 1 (.slice (some ⟨g, 0, none⟩) xs.length cap) xs.length (xs.reverse.map bV) ∧ Below base w w' := by
  have H := η h
  have hbg : base ≤ g := by
    rcases h.2 with ⟨h, _⟩ | ⟨g', _, _, h, hb, _⟩
    · cases h
    · injection h with h _ _; injection h with h; injection h with h _ _; omega
  clear h
  go_enter Tryz.func214, Tryz.ntmps214
  go_wp2_with fail
  go_loopg [2, 3] xs.length (fun gk s2 s3 wr => ∃ (k : Nat) (ys : List Int) (jz : Int), s2 = .int .i64 (k : Int) ∧ s3 = .int .i64 jz ∧ jz = (xs.length : Int) - 1 - k ∧ gk = xs.length - k ∧ 2 * k ≤ xs.length + 1 ∧ RevAt xs ys k ∧ wr.ownsRow base 5 1 (.slice (some ⟨g, 0, none⟩) xs.length cap) xs.length (ys.map bV) ∧ Below base w wr)
  case atStart => exact ⟨0, xs, _, rfl, rfl, by simp, rfl, by omega, RevAt.zero _, H.out, Below.refl _ _⟩
  case round =>
    obtain ⟨k, ys, jz, rfl, rfl, hjz, rfl, hkk, hrv, hrow, hbl⟩ := hrel
    have HR := η hrow
    have HB := η hbl
    have HK := η hkk
    have HV := η hrv
    have hyl := hrv.1
    clear hrow hbl hkk hrv
    by_cases hlt : (k : Int) < jz
    · have d0 : decide ((k : Int) < jz) = true := κt hlt
      obtain ⟨j, hj⟩ : ∃ j : Nat, j = xs.length - 1 - k := ⟨_, rfl⟩
      obtain rfl : jz = (j : Int) := by omega
      have hj1 : j < xs.length := by omega
      have hk1 : k < xs.length := by omega
      have hkj : k ≠ j := by omega
      have hkl : k < j := by omega
      have HJ := η hj
      have HS := η (HV.out.step (by omega))
      rw [← hj] at HS
      have q0 : wr.cell? ⟨g, k, none⟩ = some (.int .u8 (ys.getD k 0)) := by rw [HR.out.cellAt k (by omega), zM ys k 0 (by omega)]; simp [bV, hyl, hk1]
      have q1 : wr.cell? ⟨g, j, none⟩ = some (.int .u8 (ys.getD j 0)) := by rw [HR.out.cellAt j (by omega), zM ys j 0 (by omega)]; simp [bV, hyl, hj1]
      have t0 : wr.frozen? ⟨g, k, none⟩ = false := HR.out.frozenAt k
      have t1 : wr.frozen? ⟨g, j, none⟩ = false := HR.out.frozenAt j
      obtain ⟨yk, hyk⟩ : ∃ z, z = ys.getD k 0 := ⟨_, rfl⟩
      obtain ⟨yj, hyj⟩ : ∃ z, z = ys.getD j 0 := ⟨_, rfl⟩
      rw [← hyk, ← hyj] at HS
      rw [← hyk] at q0
      rw [← hyj] at q1
      clear hlt hjz hj hyk hyj
      go_wp2_with fail
      have l0 : (k : Int) < (xs.length : Int) := by omega
      have l1 : (j : Int) < (xs.length : Int) := by omega
      have hgz : g < wr := by
        rcases Nat.lt_or_ge g wr with h | h
        · exact h
        · simp [World.cell?, Array.getElem?_eq_none h] at q0
      refine zL (X := Unit) (w0 := wr) [13, 15] (fun jq => [0, 0, 0, 0, 0, 0, 0, 0, 0, 0, 0, 0, 0, 1, 1, 2].getD jq 0) (fun jq => [0, 0, 1, 1, 0, 0, 0, 0, 0, 0, 0, 0, 0, 0, 1, 1].getD jq 0) (fun _ => [(0, .slice (some ⟨g, 0, none⟩) xs.length cap), (2, .int .i64 (k : Int)), (3, .int .i64 (j : Int)), (14, .slice (some ⟨g, 0, none⟩) xs.length cap), (15, .int .i64 (k : Int)), (16, .slice (some ⟨g, 0, none⟩) xs.length cap), (17, .int .i64 (j : Int)), (18, .slice (some ⟨g, 0, none⟩) xs.length cap), (19, .int .i64 (j : Int)), (20, .pointer (some ⟨g, j, none⟩)), (21, .int .u8 yj), (22, .slice (some ⟨g, 0, none⟩) xs.length cap), (23, .int .i64 (k : Int)), (24, .pointer (some ⟨g, k, none⟩)), (25, .int .u8 yk), (26, .pointer (some ⟨g, k, none⟩)), (27, .pointer (some ⟨g, j, none⟩))]) (fun _ => []) [0, 2, 3] (fun t _ W => match t with | 0 => Below wr wr W | 1 => ∃ W0, Below wr wr W0 ∧ W = W0.setCell ⟨g, k, none⟩ (.int .u8 yj) | _ => ∃ W0, Below wr wr W0 ∧ W = (W0.setCell ⟨g, k, none⟩ (.int .u8 yj)).setCell ⟨g, j, none⟩ (.int .u8 yk)) () (Below.refl _ _).drew ?_ ?_ ?_
      · intro T x t W hT hI htl
        simp only [zA, and_true] at hT
        rcases t with _ | _ | _ | t
        · skip
          replace hI : Below wr wr W := hI
          have c1 := (hI.cell (p := ⟨g, j, none⟩) hgz).trans q1
          have c0 := (hI.cell (p := ⟨g, k, none⟩) hgz).trans q0
          repeat' first | exact AllI.nil | apply AllI.cons
          all_goals intro hn hl hu
          all_goals first | exact absurd hn (by decide) | exact absurd hl (by decide) | exact absurd hu (by decide) | (refine rdT ?_; simp [go_sem, EvT, hT, l1, c1, l0, c0, valT])
        · skip
          repeat' first | exact AllI.nil | apply AllI.cons
          all_goals intro hn hl hu
          all_goals first | exact absurd hn (by decide) | exact absurd hl (by decide) | exact absurd hu (by decide) | (refine rdT ?_; simp [go_sem, EvT, hT, l1, valT])
        · exact noI
        · exact absurd htl (by simp)
      · intro T k x W o hk ho hT hI
        simp only [zA, and_true] at hT
        rcases k with _ | _ | k
        · cases ho
          replace hI : Below wr wr W := hI
          have c0 := (hI.cell (p := ⟨g, k, none⟩) hgz).trans q0
          have f0 := (hI.frozen (p := ⟨g, k, none⟩) hgz).trans t0
          refine chT_s (W' := W.setCell ⟨g, k, none⟩ (.int .u8 yj)) ?_ (⟨W, hI, rfl⟩)
          clear hI
          simp [go_sem, EvT, hT, c0, f0]
        · cases ho
          obtain ⟨W0, hI0, rfl⟩ : ∃ W0, Below wr wr W0 ∧ W = W0.setCell ⟨g, k, none⟩ (.int .u8 yj) := hI
          have c0 := (hI0.cell (p := ⟨g, j, none⟩) hgz).trans q1
          have f0 := (hI0.frozen (p := ⟨g, j, none⟩) hgz).trans t1
          have hI := hI0
          refine chT_s (W' := (W0.setCell ⟨g, k, none⟩ (.int .u8 yj)).setCell ⟨g, j, none⟩ (.int .u8 yk)) ?_ (⟨W0, hI0, rfl⟩)
          clear hI
          simp [go_sem, EvT, hT, c0, f0, hkj]
        · exact absurd hk (by simp)
      intro x wx hI
      simp (decide := true) only [putT, valT, look, Act.put, σi, σo, σs, Nat.reduceAdd, if_true, if_false]
      replace hI : (fun t _ W => match t with | 0 => Below wr wr W | 1 => ∃ W0, Below wr wr W0 ∧ W = W0.setCell ⟨g, k, none⟩ (.int .u8 yj) | _ => ∃ W0, Below wr wr W0 ∧ W = (W0.setCell ⟨g, k, none⟩ (.int .u8 yj)).setCell ⟨g, j, none⟩ (.int .u8 yk)) 2 x wx := hI
      (try dsimp only at hI)
      obtain ⟨W0, hb0, rfl⟩ : ∃ W0, Below wr wr W0 ∧ wx = (W0.setCell ⟨g, k, none⟩ (.int .u8 yj)).setCell ⟨g, j, none⟩ (.int .u8 yk) := hI
      have HR2 : Hid (((W0.setCell ⟨g, k, none⟩ (.int .u8 yj)).setCell ⟨g, j, none⟩ (.int .u8 yk)).ownsRow base 5 1 (.slice (some ⟨g, 0, none⟩) xs.length cap) xs.length (((ys.set k yj).set j yk).map bV)) := by
        show World.ownsRow _ _ _ _ _ _ _
        have := (((qS HR.out hb0).stored k (bV yj)).1.stored j (bV yk)).1
        rw [← List.map_set, ← List.map_set] at this
        exact this
      have HB2 : Hid (Below base w ((W0.setCell ⟨g, k, none⟩ (.int .u8 yj)).setCell ⟨g, j, none⟩ (.int .u8 yk))) := ((HB.out.trans (hb0.mono (by omega))).setCell (p := ⟨g, k, none⟩) hbg _).setCell (p := ⟨g, j, none⟩) hbg _
      clear hb0 HR HB
      generalize (W0.setCell ⟨g, k, none⟩ (.int .u8 yj)).setCell ⟨g, j, none⟩ (.int .u8 yk) = wz at *
      go_wp2_with fail
      go_roundg (xs.length - (k + 1))
      case measure => omega
      case rel => exact ⟨k + 1, (ys.set k yj).set j yk, (j : Int) - 1, by go_num, rfl, by have := HJ.out; omega, rfl, by have := HJ.out; omega, HS.out, HR2.out, HB2.out⟩
    · have d0 : decide ((k : Int) < jz) = false := κf hlt
      have HE : Hid (ys = xs.reverse) := HV.out.ends (by have := HK.out; omega)
      clear hlt hjz
      go_wp2_with fail
      exact bodyPost_end (v := .tuple #[]) (by simp [results, Tryz.results214, go_sem]) rfl ⟨rfl, by rw [← HE.out]; exact HR.out, HB.out⟩
def dV (d : Nat) : Int := 48 + d
theorem lF : (Tryz.prog.info? 5).map (fun i => (i.zero, i.size, i.bytes)) = some (some (.int .u8 0), 1, 1) := by kernel_rfl
def DigO (w : World) (base : Nat) (v : Value) (ds : List Nat) : Prop := w.ownsRow base 5 1 v ds.length ((ds.map dV).map bV)
theorem DigO.cell {w : World} {base g m cap : Nat} {ds : List Nat} (h : DigO w base (.slice (some ⟨g, 0, none⟩) m cap) ds) (k : Nat) (hk : k < ds.length) : w.cell? ⟨g, k, none⟩ = some (.int .u8 (48 + (ds.getD k 0 : Int))) := by
 have hm : m = ds.length := by
  rcases h.2 with ⟨h, _⟩ | ⟨_, _, _, h, _⟩
  ·cases h
  ·injection h
 subst hm;rw [World.ownsRow.cellAt h k (by omega), zM ds k 0 hk];simp [bV, dV, hk]
theorem sG {w : World} {base : Nat} {e : TypeId} {g n cap m : Nat} {xs : List Value} (h : w.ownsRow base e 1 (.slice (some ⟨g, 0, none⟩) n cap) n xs) (hm : m ≤ n) : w.ownsRow base e 1 (.slice (some ⟨g, 0, none⟩) m cap) m (xs.take m) := by
 have h1 := h.1;refine ⟨by rw [κk]; omega, ?_⟩;rcases h.2 with ⟨h, _⟩ | ⟨g', cap', cur, h, h2, h3, h4, h5, h6, h7⟩
 ·cases h
 ·injection h with ha hb hc
  injection ha with ha
  injection ha with ha _ _
  subst ha;subst hc;refine .inr ⟨g, cap, cur, rfl, h2, h3, by omega, h5, h6, ?_⟩;rw [← h7, List.take_take]
  congr 1
  omega
theorem DigO.take {w : World} {base g m cap : Nat} {ds : List Nat} {d : Nat} (h : DigO w base (.slice (some ⟨g, 0, none⟩) m cap) (ds ++ [d])) : DigO w base (.slice (some ⟨g, 0, none⟩) ds.length cap) ds := by
 have hm : m = (ds ++ [d]).length := by
  rcases h.2 with ⟨h, _⟩ | ⟨_, _, _, h, _⟩
  ·cases h
  ·injection h
 subst hm;have := sG h (m := ds.length) (by simp);unfold DigO;simpa using this
theorem lE {ds : List Nat} (h : ds ≠ []) : ∃ l d, ds = l ++ [d] := ⟨ds.dropLast, ds.getLast h, (List.dropLast_concat_getLast h).symm⟩
theorem nL (x : Nat) : ((ldN x).map dV).reverse = (Lib.decDigits x).map (fun b => (b.toNat : Int)) := by
 rw [oT, ← List.map_reverse, ← List.map_reverse, List.map_map];apply List.map_congr_left;intro d hd;have h10 : d < 10 := by
  have : ∀ u, ∀ d ∈ ldN u, d < 10 := by
   intro u
   induction u using Nat.strongRecOn with
   | _ u ih =>
    intro d hd;by_cases h : u < 10
    ·rw [uV h] at hd; simp at hd; omega
    ·rw [mG h] at hd;rcases List.mem_cons.1 hd with rfl | hd
     ·omega
     ·exact ih _ (by omega) d hd
  exact this x d (by simpa using hd)
 have : (asc d).toNat = 48 + d := by unfold asc; simp [UInt8.toNat_ofNat']; omega
 simp only [Function.comp, dV, this];omega
theorem nQ {w : World} {base g cap : Nat} (T : Bytes) (h : w.ownsRow base 5 1 (.slice (some ⟨g, 0, none⟩) T.length cap) T.length ((T.map fun b => (b.toNat : Int)).map bV)) :
  (convert 113 9 (.slice (some ⟨g, 0, none⟩) T.length cap)).run Tryz.prog w = .ok (.string (bstr T)) w := by
 refine run_convert_bytes_back w _ _ _ _ _ T Tryz.underlying113 Tryz.underlying5 Tryz.underlying9 (fun j hj => ?_);have ha : (⟨g, 0, none⟩ : Addr).add j = ⟨g, j, none⟩ := by unfold Addr.add; split <;> simp_all
 rw [ha, h.cellAt j (by omega)];simp [bV, hj]
def FmtR (base gw cw : Nat) (x : Nat) (W1 : World) (gk : Nat) (s3 s4 : Value) (wr : World) : Prop :=
 ∃ (r : Nat) (acc : List Nat), s3 = .slice (some ⟨gw, 0, none⟩) (if r = 0 then 0 else 1) cw ∧ r < 1000000000 ^ gk ∧ r < 4294967296 ∧ (∀ d ∈ acc, d < 10) ∧ ldv acc + 10 ^ acc.length * r = x ∧ acc.length + 9 * gk = 18 ∧
  DigO wr base s4 acc ∧ wr.ownsRow base 192 1 (.slice (some ⟨gw, 0, none⟩) 1 cw) 1 [.int .u32 r] ∧ Below base W1 wr
theorem pP (n : Int) (base : Nat) (a0 a1 : Value) (w : World) (h : N1 w base a0 a1 n) :
  Calls Tryz.prog 177 #[.agg #[a0, a1]] w fun e w' => e = .returned (.string (bstr (Lib.itoa n))) ∧ Below w w w' := by
 obtain ⟨j0, hj, hy0, hy1, hy2⟩ := info_parts lF;rcases h with ⟨rfl, rfl, rfl⟩ | ⟨hn, hlt, rfl, b, hb, rfl, hcb⟩
 ·have KT := η fun W => vP none 0 [] W WrdR.nil_ (by simp) (νr _)
  have KC := η fun W => gZ none 0 [] W WrdR.nil_ (by simp)
  have EI : Hid (bstr (Lib.itoa 0) = ⟨#[48]⟩) := by show _ = _; decide +kernel
  go_enter Tryz.func177, Tryz.ntmps177;go_wp2_with fail;refine (KT.out _).mono ?_;rintro e w1 ⟨rfl, hb1⟩;rw [show (trimL ([] : List Int)).length = 0 from rfl];go_wp2_with fail;refine (KC.out _).mono ?_;rintro e w2 ⟨v, rfl, hown, hb2⟩;obtain ⟨A, c, rfl, _⟩ := zR hown;have HB := η ((((Below.refl w w).alloc (νr _) (.cells #[.bool false, .slice none 0 0] 83)).trans (hb1.mono (by simp))).trans (hb2.mono (by have := hb1.size; simp at this; omega)));rw [show ([] : List Int).length = 0 from rfl];clear hb1 hb2 hown;go_wp2_with fail;go_ret;exact ⟨by rw [EI.out]; rfl, HB.out⟩
 ·have hlb : b < w := (κi hcb).1;obtain ⟨x, hx⟩ : ∃ x, x = n.natAbs := ⟨_, rfl⟩;rw [← hx] at hlt hcb;have hx0 : 0 < x := by omega
  have HX := η hx;clear hx;have hwr : WrdR w w (some ⟨b, 0, none⟩) [(x : Int)] := fun _ => ⟨b, 0, rfl, hlb, fun i hi => by
   have hi0 : i = 0 := by simp at hi; exact hi
   subst hi0;rw [Lib.cell_of_heap hcb]; rfl⟩
  have HW := η hwr;have KT := η fun W h => vP (some ⟨b, 0, none⟩) 1 [(x : Int)] W h (by simp) (νr _)
  have KC := η fun W h => gZ (some ⟨b, 0, none⟩) 1 [(x : Int)] W h (by simp)
  have ET : (trimL [(x : Int)]).length = 1 := by rw [uE (by omega)]; rfl
  rw [ET] at KT;rw [show [(x : Int)].length = 1 from rfl] at KT KC;clear hwr hcb ET hb hlb;obtain ⟨ng, hng⟩ : ∃ ng, ng = decide (n < 0) := ⟨_, rfl⟩;rw [← hng];have HNG := η hng;clear hng;have HB0 : Hid (Below w w (w.alloc (.cells #[.bool ng, .slice (some ⟨b, 0, none⟩) 1 1] 83))) := βA _;have HXB : Hid (Box (w.alloc (.cells #[.bool ng, .slice (some ⟨b, 0, none⟩) 1 1] 83)) w [.bool ng, .slice (some ⟨b, 0, none⟩) 1 1]) := Box.new w #[.bool ng, .slice (some ⟨b, 0, none⟩) 1 1] 83;have hz0 : w < (w.alloc (.cells #[.bool ng, .slice (some ⟨b, 0, none⟩) 1 1] 83)).heap.size := by simp
  go_enter Tryz.func177, Tryz.ntmps177;go_wp2_with fail;refine (KT.out _ (HW.out.upto HB0.out)).mono ?_;rintro e w1 ⟨rfl, hb1⟩;go_wp2_with fail;refine (KC.out _ (HW.out.upto (HB0.out.trans (hb1.mono (by simp))))).mono ?_;rintro e w2 ⟨v, rfl, hown, hb2⟩;obtain ⟨gw, cw, rfl⟩ : ∃ g c, v = .slice (some ⟨g, 0, none⟩) 1 c := by
   rcases hown.2 with ⟨_, h0⟩ | ⟨g, cap, cur, hv, _⟩
   ·simp at h0
   ·exact ⟨g, cap, hv⟩
  have hz1 := hb1.size;have hz2 := hb2.size;have HB2 := η ((hb1.mono (show w.heap.size + 1 ≤ _ by simp)).trans (hb2.mono (show w.heap.size + 1 ≤ _ by simp at hz1; omega)));have HO2 : Hid (w2.ownsRow (w + 1) 192 1 (.slice (some ⟨gw, 0, none⟩) 1 cw) 1 [.int .u32 (x : Int)]) := by
   show World.ownsRow _ _ _ _ _ _ _
   refine ⟨hown.1, ?_⟩;rcases hown.2 with h | ⟨g, cap, cur, h1, h2, h3⟩
   ·exact .inl h
   ·exact .inr ⟨g, cap, cur, h1, by simp at hz1; omega, h3⟩
  clear hown hb1 hb2 hz1 hz2 KC HW;obtain ⟨W1, hW1⟩ : ∃ W, W = w.alloc (.cells #[.bool ng, .slice (some ⟨b, 0, none⟩) 1 1] 83) := ⟨_, rfl⟩;rw [← hW1] at HB0 HXB HB2 hz0;clear hW1 KT;go_wp2_with fail;go_loopg [3, 4, 5] 2 (fun gk s3 s4 s5 wr => FmtR (w + 1) gw cw x W1 gk s3 s4 wr)
  case atStart => exact ⟨x, [], by rw [if_neg (by omega)], by omega, hlt, (by simp), by simp [ldv], rfl, World.ownsRow_nil _ _ _ _, HO2.out, HB2.out⟩
  case round =>
   obtain ⟨r, acc, rfl, hrk, hr32, hd10, hv, hla, hdig, hrow, hbl⟩ := hrel;have HD := η hdig;have HR := η hrow;have HB := η hbl;have HV := η hv;have H10 := η hd10;have HL := η hla;clear hdig hrow hbl hv hd10 HO2 HB2;have hbg : w + 1 ≤ gw := by
    rcases HR.out.2 with ⟨h, _⟩ | ⟨g', _, _, h, hb, _⟩
    ·cases h
    ·injection h with h _ _; injection h with h; injection h with h _ _; omega
   by_cases hr : r = 0
   ·subst hr;rw [if_pos rfl];have HXV : Hid (ldv acc = x) := by show _ = _; have := HV.out; rw [Nat.mul_zero, κz] at this; exact this
    have hla18 : acc.length ≤ 18 := by have := HL.out; omega
    clear HR HV HL hrk hr32 hbg;go_wp2_with fail;go_loopg [4] acc.length (fun gk s4 wi => ∃ (gd cd : Nat) (ds : List Nat), s4 = .slice (some ⟨gd, 0, none⟩) ds.length cd ∧ ds.length = gk ∧ ds.length ≤ 18 ∧ DigO wi (w + 1) (.slice (some ⟨gd, 0, none⟩) ds.length cd) ds ∧ strip ds = ldN x ∧ Below (w + 1) W1 wi)
    case atStart =>
     have hs : strip acc = ldN x := by rw [rK H10.out (by rw [HXV.out]; exact hx0), HXV.out]
     have hac : 0 < acc.length := by
      rcases acc with _ | ⟨a, l⟩
      ·have := HXV.out; simp [ldv] at this; omega
      ·simp
     have hd := HD.out;rcases hd.2 with ⟨_, h⟩ | ⟨g, cap, cur, rfl, _⟩
     ·omega
     ·exact ⟨g, cap, acc, rfl, rfl, hla18, HD.out, hs, HB.out⟩
    case round =>
     obtain ⟨gd, cd, ds, rfl, rfl, h18, hdig, hst, hbl⟩ := hrel;have HD2 := η hdig;have HB2 := η hbl;have HS := η hst;have hne : ds ≠ [] := by
      intro e;rw [e] at hst;have : ldN x ≠ [] := by rw [ldN]; split <;> simp
      exact this hst.symm
     obtain ⟨l, d, rfl⟩ := lE hne;clear hdig hbl hst hne HD HB;have hll : (l ++ [d]).length = l.length + 1 := by simp
     rw [hll];rw [hll] at HD2 h18;have q0 := HD2.out.cell l.length (by simp);rw [show (l ++ [d]).getD l.length 0 = d by simp] at q0;have hsub : ((l.length + 1 : Nat) : Int) - 1 = (l.length : Int) := by omega
     have hcd : l.length + 1 ≤ cd := by
      rcases HD2.out.2 with ⟨h, _⟩ | ⟨g', _, _, h, _, _, hb, _⟩
      ·cases h
      ·injection h with _ _ h2; subst h2; simpa using hb
     by_cases hd0 : d = 0
     ·subst hd0;rw [show (48 + ((0 : Nat) : Int)) = 48 from rfl] at q0;have HD3 : Hid (DigO wr (w + 1) (.slice (some ⟨gd, 0, none⟩) l.length cd) l) := HD2.out.take;have HS3 : Hid (strip l = ldN x) := by show _ = _; rw [← HS.out, uH]
      clear HD2 HS;go_wp2_with fail;go_roundg l.length
      case measure => omega
      case rel => exact ⟨gd, cd, l, by go_num, rfl, by omega, HD3.out, HS3.out, HB2.out⟩
     ·have e0 : ((48 + (d : Int)) == 48) = false := βf (by omega);have HS3 : Hid (l ++ [d] = ldN x) := by show _ = _; rw [← HS.out, nZ hd0]
      have HBX := η (HXB.out.up HB2.out (by omega));have b0 := HBX.out.c 0 _ rfl;clear HS;obtain ⟨ds, hds⟩ : ∃ ds, ds = l ++ [d] := ⟨_, rfl⟩;rw [← hds] at HD2 HS3;have hdl : ds.length = l.length + 1 := by rw [hds]; simp
      clear hds;have hown : wr.ownsRow (w + 1) 5 1 (.slice (some ⟨gd, 0, none⟩) (l.length + 1) cd) ds.length ((ds.map dV).map bV) := HD2.out;have hzw : w + 1 ≤ wr.heap.size := by have := HB2.out.size; omega
      cases ng with
      | true =>
       have HT : Hid (((ds.map dV) ++ [45]).reverse = (Lib.itoa n).map (fun b => (b.toNat : Int))) := by
        show _ = _
        have hneg : n < 0 := of_decide_eq_true HNG.out.symm;rw [HS3.out, List.reverse_append, nL, Lib.itoa, if_pos hneg, ← HX.out];rfl
       go_wp2_with (at_builtin; refine wpList_append_own _ rfl _ _ 113 rfl (w + 1) 5 j0 _ 1 1 Tryz.underlying113 hj hy0 hy1 hy2 rfl (by decide) _ _ _ rfl (hown.alloc _) ⟨wr, 0, none⟩ 1 1 [.int .u8 45] rfl rfl (cell_one_new _ _ _) (by simp [Value.oneCell']) (by unfold maxLen; omega) (by omega) (by simp; omega) ?_; intro v' w5 hown' hgrow _);have HB5 := η (HB2.out.trans (zH hown hzw hgrow));obtain ⟨g5, c5, rfl⟩ : ∃ g c, v' = .slice (some ⟨g, 0, none⟩) (ds.length + 1) c := by
        rcases hown'.2 with ⟨_, h⟩ | ⟨g, cap, cur, hv, _⟩
        ·omega
        ·exact ⟨g, cap, hv⟩
       have hlx : ((ds.map dV) ++ [45]).length = ds.length + 1 := by simp
       have KR := uM (w + 1) g5 c5 ((ds.map dV) ++ [45]) w5 (by rw [hlx]; simpa [bV] using hown') (by rw [hlx]; omega);rw [hlx, HT.out] at KR;have hlt' : (Lib.itoa n).length = ds.length + 1 := by have := congrArg List.length HT.out; simp at this; omega
       clear hown' hgrow hown HD2 HB2;have HKR := η KR;have HLT := η hlt';clear KR hlx hlt';go_wp2_with fail;refine HKR.out.mono ?_;rintro e w6 ⟨rfl, hown6, hb6⟩;rw [← HLT.out] at hown6 ⊢;have hcv := nQ _ hown6;have HB6 := η (HB0.out.trans ((HB5.out.trans hb6).mono (by omega)));clear hown6 hb6 HKR HB5;go_wp2_with fail;go_ret;exact ⟨rfl, HB6.out⟩
      | false =>
       have HT : Hid ((ds.map dV).reverse = (Lib.itoa n).map (fun b => (b.toNat : Int))) := by
        show _ = _
        have hneg : ¬ n < 0 := of_decide_eq_false HNG.out.symm;rw [HS3.out, nL, Lib.itoa, if_neg hneg, HX.out, show n.toNat = n.natAbs by omega]
       have hlx : (ds.map dV).length = l.length + 1 := by simp [hdl]
       have KR := uM (w + 1) gd cd (ds.map dV) wr (by rw [hlx]; rw [hdl] at hown; exact hown) (by rw [hlx]; omega);rw [hlx, HT.out] at KR;have hlt' : (Lib.itoa n).length = l.length + 1 := by have := congrArg List.length HT.out; simp at this; omega
       clear hown HD2;have HKR := η KR;have HLT := η hlt';clear KR hlx hlt';go_wp2_with fail;refine HKR.out.mono ?_;rintro e w6 ⟨rfl, hown6, hb6⟩;rw [← HLT.out] at hown6 ⊢;have hcv := nQ _ hown6;have HB6 := η (HB0.out.trans ((HB2.out.trans hb6).mono (by omega)));clear hown6 hb6 HKR HB2;go_wp2_with fail;go_ret;exact ⟨rfl, HB6.out⟩
   ·rw [if_neg hr];cases gk with
    | zero => exact absurd hrk (by simp; omega)
    | succ g =>
     have HRK : Hid (r / 1000000000 < 1000000000 ^ g) := by
      show _ < _
      rw [Nat.pow_succ] at hrk;exact Nat.div_lt_of_lt_mul (by omega)
     have q0 : wr.cell? ⟨gw, 0, none⟩ = some (.int .u32 (r : Int)) := by rw [HR.out.cellAt 0 (by omega)]; rfl
     have t0 : wr.frozen? ⟨gw, 0, none⟩ = false := HR.out.frozenAt 0;have K3 := η (fG gw cw r wr ⟨by omega, by omega⟩ q0 t0);have hne : u4.ownBlock ≠ some gw := by
      rcases tS HR.out HD.out (by decide) with h | h
      ·rw [h]; simp
      ·exact h
     clear q0 t0 hrk;go_wp2_with fail;refine K3.out.mono ?_;rintro e w3 ⟨rfl, hw3⟩;have HR3 : Hid (w3.ownsRow (w + 1) 192 1 (.slice (some ⟨gw, 0, none⟩) 1 cw) 1 [.int .u32 ((r / 1000000000 : Nat) : Int)]) := by
      show World.ownsRow _ _ _ _ _ _ _
      rw [hw3];exact (HR.out.stored 0 _).1
     have HD3 : Hid (DigO w3 (w + 1) u4 acc) := by
      show DigO _ _ _ _
      rw [hw3];exact jR (p := ⟨gw, 0, none⟩) HD.out hne _
     have HB3 : Hid (Below (w + 1) W1 w3) := by show Below _ _ _; rw [hw3]; exact HB.out.setCell (p := ⟨gw, 0, none⟩) hbg _
     clear hw3 K3 hne HR HD HB;obtain ⟨q, hq⟩ : ∃ q, q = r / 1000000000 := ⟨_, rfl⟩;rw [← hq] at HR3 HRK;have hq32 : q < 4294967296 := by omega
     have KT := η (vP (some ⟨gw, 0, none⟩) cw [(q : Int)] w3 (fun _ => ⟨gw, 0, rfl, by
      rcases HR3.out.2 with ⟨h, _⟩ | ⟨g', _, _, h, _, hb, _⟩
      ·cases h
      ·injection h with h _ _; injection h with h; injection h with h _ _; subst h; exact (κi hb).1, fun i hi => by
       have hi0 : i = 0 := by simp at hi; exact hi
       subst hi0;rw [HR3.out.cellAt 0 (by omega)]; rfl⟩) (by simp) (by
      rcases HR3.out.2 with ⟨h, _⟩ | ⟨g', _, _, h, _, _, hb, _⟩
      ·cases h
      ·injection h with h _ h2; subst h2; exact hb))
     have ET : (trimL [(q : Int)]).length = if q = 0 then 0 else 1 := by
      by_cases h : q = 0
      ·rw [if_pos h, h]; rfl
      ·rw [if_neg h, uE (by omega)]; rfl
     obtain ⟨lw, hlw⟩ : ∃ l, l = if q = 0 then 0 else 1 := ⟨_, rfl⟩
     rw [ET, ← hlw] at KT;rw [show [(q : Int)].length = 1 from rfl] at KT;have HLW := η hlw;clear hlw;obtain ⟨m, hm⟩ : ∃ m, m = r % 1000000000 := ⟨_, rfl⟩;have hmc : (r : Int) % 1000000000 = (m : Int) := by omega
     rw [hmc];have HM := η hm;have HQ := η hq;clear ET hm hq hmc;go_wp2_with fail;refine KT.out.mono ?_;rintro e w4 ⟨rfl, hb4⟩;have HR4 := η (qS HR3.out hb4);have HD4 : Hid (DigO w4 (w + 1) u4 acc) := qS HD3.out hb4;have HB4 := η (HB3.out.trans (hb4.mono (by have := HB3.out.size; omega)));clear hb4 HR3 HD3 HB3 KT;go_wp2_with fail;go_loopg [4, 5, 20] 9 (fun g' s4 s5 s20 wi => ∃ (k : Nat), k + g' = 9 ∧ s20 = .int .i64 (k : Int) ∧ s5 = .int .u64 ((m / 10 ^ k : Nat) : Int) ∧ DigO wi (w + 1) s4 (acc ++ digs m k) ∧ wi.ownsRow (w + 1) 192 1 (.slice (some ⟨gw, 0, none⟩) 1 cw) 1 [.int .u32 (q : Int)] ∧ Below (w + 1) W1 wi)
     case atStart => exact ⟨0, rfl, rfl, by simp, by simpa [digs] using HD4.out, HR4.out, HB4.out⟩
     case round =>
      obtain ⟨k, hkg, rfl, rfl, hdig, hrow, hbl⟩ := hrel;have HD := η hdig;have HR := η hrow;have HB := η hbl;clear hdig hrow hbl HD4 HR4 HB4;have HG := η hkg;clear hkg;cases gk with
      | zero =>
       obtain rfl : k = 9 := by have := HG.out; omega
       go_wp2_with fail;go_roundg g
       case measure => omega
       case rel =>
        have hdg := lO 9 m;refine ⟨q, acc ++ digs m 9, by rw [HLW.out], HRK.out, hq32, fun d hd => ?_, ?_, ?_, HD.out, HR.out, HB.out⟩
        ·rcases List.mem_append.1 hd with hd | hd
         ·exact H10.out d hd
         ·exact hdg d hd
        ·have hm9 : m < 10 ^ 9 := by rw [HM.out]; exact Nat.mod_lt _ (by decide)
         rw [aV, tA 9 m hm9, κa, kE, Nat.pow_add, ← HV.out, Nat.add_assoc, Nat.mul_assoc, ← Nat.mul_add]
         congr 2
         have h1 := HM.out;have h2 := HQ.out;have e9 : (10 : Nat) ^ 9 = 1000000000 := by decide
         rw [e9];omega
        ·rw [κa, kE];have := HL.out;omega
      | succ g2 =>
       have hk : k < 9 := by have := HG.out; omega
       have d0 : decide ((k : Int) < 9) = true := κt (by omega);obtain ⟨y, hy⟩ : ∃ y, y = m / 10 ^ k := ⟨_, rfl⟩;rw [← hy];have HY := η hy;clear hy;obtain ⟨ac2, hac⟩ : ∃ l, l = acc ++ digs m k := ⟨_, rfl⟩;rw [← hac] at HD;have hl2 : ac2.length ≤ 18 := by rw [hac, κa, kE]; have := HL.out; omega
       have HAC := η hac;clear hac;have hown : World.ownsRow _ (w + 1) 5 1 _ ac2.length ((ac2.map dV).map bV) := HD.out;have hzw : w + 1 ≤ wr.heap.size := by have := HB.out.size; omega
       go_wp2_with (at_builtin; refine wpList_append_own _ rfl _ _ 113 rfl (w + 1) 5 j0 _ 1 1 Tryz.underlying113 hj hy0 hy1 hy2 rfl (by decide) _ _ _ rfl (hown.alloc _) ⟨wr, 0, none⟩ 1 1 [.int .u8 (48 + (y : Int) % 10)] rfl rfl (cell_one_new _ _ _) (by simp [Value.oneCell']) (by unfold maxLen; omega) (by omega) (by simp; omega) ?_; intro v' w5 hown' hgrow _);have HD5 : Hid (DigO w5 (w + 1) v' (ac2 ++ [y % 10])) := by
        show DigO _ _ _ _
        unfold DigO;simpa [dV, bV] using hown'
       have hne := tS hown HR.out (by decide);have HR5 := η ((HR.out.alloc (.cells #[.int .u8 (48 + (y : Int) % 10)] 5)).kept hgrow hne);have HB5 := η (HB.out.trans (zH hown hzw hgrow));clear hown' hgrow hne hown HD HR HB;go_wp2_with fail;go_roundg g2
       case measure => omega
       case rel =>
        refine ⟨k + 1, by have := HG.out; omega, by go_num, ?_, ?_, HR5.out, HB5.out⟩
        ·rw [Nat.pow_succ, ← Nat.div_div_eq_div_mul, ← HY.out, κu _ (by have h1 := Nat.div_le_self m (10 ^ k); rw [← HY.out] at h1; have h2 := HM.out; omega)]; congr 1
        ·have := HD5.out;rw [HAC.out, HY.out, κq, ← eV] at this;exact this
theorem bX (n : Int) (ng : Bool) (A : Option Addr) (k c : Nat) (w : World) (h : NumR w w (.agg #[.bool ng, .slice A k c]) n) (h0 : -2147483648 < n) (h1 : n < 2147483648) :
  Calls Tryz.prog 208 #[.agg #[.bool ng, .slice A k c, .bool false, .slice none 0 0]] w fun e w' => e = .returned (.tuple #[.int .i64 n, .int .i64 1, .bool true]) ∧ Below w w w' := by
 have HX : Hid (Box (w.alloc (.cells #[.bool ng, .slice A k c, .bool false, .slice none 0 0] 85)) w [.bool ng, .slice A k c, .bool false, .slice none 0 0]) := Box.new w #[.bool ng, .slice A k c, .bool false, .slice none 0 0] 85;have HB : Hid (Below w w (w.alloc (.cells #[.bool ng, .slice A k c, .bool false, .slice none 0 0] 85))) := βA _;have K1 := η (uW (.agg #[.bool ng, .slice A k c]) n (w.alloc (.cells #[.bool ng, .slice A k c, .bool false, .slice none 0 0] 85)) (h.upto HB.out));have K2 := η (fun W => uW (.agg #[.bool false, .slice none 0 0]) 0 W (NumR.zero _ _));rw [fT (by omega)] at K1 K2;have d0 : decide (n ≤ -2147483648) = false := κf (by omega);have d1 : decide (2147483648 ≤ n) = false := κf (by omega);clear h h0 h1;go_enter Tryz.func208, Tryz.ntmps208;go_wp2_with fail;refine K1.out.mono ?_;rintro e w1 ⟨rfl, hb1⟩;have HX1 := η (HX.out.up hb1 (by simp));have HB1 := η (HB.out.trans (hb1.mono (by simp)));clear hb1 HX HB K1;obtain ⟨q0, s0, q1, s1, q2, s2, q3, s3⟩ := sqX4 HX1.out;go_wp2_with fail;refine (K2.out _).mono ?_;rintro e w2 ⟨rfl, hb2⟩;have HB2 := βT HB1 hb2;clear hb2 K2 HX1 HB1 q0 q1 q2 q3 s0 s1 s2 s3;go_wp2_with fail;go_ret3;exact ⟨rfl, HB2.out⟩
theorem cG (n : Int) (w : World) (h0 : -2147483648 < n) (h1 : n < 2147483648) :
  Calls Tryz.prog 209 #[.int .i64 n, .int .i64 1] w (Q1E w n) := by
 have HX : Hid (Box (w.alloc (.cells #[.bool false, .slice none 0 0, .bool false, .slice none 0 0] 85)) w [.bool false, .slice none 0 0, .bool false, .slice none 0 0]) := Box.new w #[.bool false, .slice none 0 0, .bool false, .slice none 0 0] 85;have HB : Hid (Below w w (w.alloc (.cells #[.bool false, .slice none 0 0, .bool false, .slice none 0 0] 85))) := βA _;have K := η fun W => pE n W (by omega) (by omega)
 have hm : n.tmod 1 = 0 := Int.tmod_one n;have hd : n.tdiv 1 = n := Int.tdiv_one n;have hw : IntKind.i64.wrap n = n := IntWalk.i64_in _ (by omega);clear h0 h1;go_enter Tryz.func209, Tryz.ntmps209;go_wp2_with fail;go_loopg [5, 6] 1 (fun gk s5 s6 wr => ((gk = 1 ∧ s5 = .int .i64 n ∧ s6 = .int .i64 1) ∨ (gk = 0 ∧ s5 = .int .i64 1 ∧ s6 = .int .i64 0)) ∧ Box wr w [.bool false, .slice none 0 0, .bool false, .slice none 0 0] ∧ Below w w wr ∧ w < wr.heap.size)
 case atStart => exact ⟨.inl ⟨rfl, rfl, rfl⟩, HX.out, HB.out, by simp⟩
 case round =>
  obtain ⟨hc, hx, hb, hz⟩ := hrel;have HX1 := η hx;have HB1 := η hb;clear hx hb HX HB;rcases hc with ⟨rfl, rfl, rfl⟩ | ⟨rfl, rfl, rfl⟩
  ·go_wp2_with fail;go_quiet (fail);go_wp2_with fail;go_roundg 0
   case measure => omega
   case rel => exact ⟨.inr ⟨rfl, rfl, rfl⟩, HX1.out, gC HB1.out _, hz⟩
  ·have HK := η (K.out wr);obtain ⟨q0, s0, q1, s1, q2, s2, q3, s3⟩ := sqX4 HX1.out;go_wp2_with fail;refine HK.out.mono ?_;rintro e w1 ⟨a0, a1, rfl, hv, hb1⟩;obtain ⟨ng, A, k, c, rfl, rfl⟩ := hv.form;have hz1 : w < w1.heap.size := νl hz hb1.size;have HX2 := η (HX1.out.up hb1 hz);have HB2 := η (HB1.out.trans (hb1.mono (κl hz)));have HN := η (hv.mono (base' := w + 1) hz);clear q0 q1 q2 q3 s0 s1 s2 s3 HX1 HB1 hv hb1 HK K;obtain ⟨q0, s0, q1, s1, q2, s2, q3, s3⟩ := sqX4 HX2.out;go_wp2_with fail;have HF : Hid (Below w w ((((w1.setCell ⟨w, 0, none⟩ (.bool ng)).setCell ⟨w, 1, none⟩ (.slice A k c)).setCell ⟨w, 2, none⟩ (.bool false)).setCell ⟨w, 3, none⟩ (.slice none 0 0))) := zI HB2.out (νr w) [.bool ng, .slice A k c, .bool false, .slice none 0 0] 0;have HM : Hid (N1 ((((w1.setCell ⟨w, 0, none⟩ (.bool ng)).setCell ⟨w, 1, none⟩ (.slice A k c)).setCell ⟨w, 2, none⟩ (.bool false)).setCell ⟨w, 3, none⟩ (.slice none 0 0)) w (.bool ng) (.slice A k c) n) := ((((HN.out.set (p := ⟨w, 0, none⟩) (by simp) (.bool ng)).set (p := ⟨w, 1, none⟩) (by simp) (.slice A k c)).set (p := ⟨w, 2, none⟩) (by simp) (.bool false)).set (p := ⟨w, 3, none⟩) (by simp) (.slice none 0 0)).mono (by omega);exact κr (v := .agg #[.bool ng, .slice A k c, .bool false, .slice none 0 0]) (by simp [results, Tryz.results209, go_sem, q0, q1, q2, q3]) rfl ⟨_, _, rfl, HM.out, HF.out⟩
theorem eZ (n : Int) (ng : Bool) (A : Option Addr) (k c : Nat) (w : World) (h : NumR w w (.agg #[.bool ng, .slice A k c]) n) (h0 : -2147483648 < n) (h1 : n < 2147483648) :
  Calls Tryz.prog 176 #[.agg #[.bool ng, .slice A k c, .bool false, .slice none 0 0]] w (Q1E w n) := by
 have HX : Hid (Box ((w.alloc (.cells #[.bool ng, .slice A k c, .bool false, .slice none 0 0] 85)).alloc (.cells #[.bool false, .slice none 0 0, .bool false, .slice none 0 0] 85)) w [.bool ng, .slice A k c, .bool false, .slice none 0 0]) := (Box.new w #[.bool ng, .slice A k c, .bool false, .slice none 0 0] 85).alloc (by simp) _;have HY : Hid (Box ((w.alloc (.cells #[.bool ng, .slice A k c, .bool false, .slice none 0 0] 85)).alloc (.cells #[.bool false, .slice none 0 0, .bool false, .slice none 0 0] 85)) (w + 1) [.bool false, .slice none 0 0, .bool false, .slice none 0 0]) := by
  have := Box.new (w.alloc (.cells #[.bool ng, .slice A k c, .bool false, .slice none 0 0] 85)) #[.bool false, .slice none 0 0, .bool false, .slice none 0 0] 85;show Box _ _ _
  simpa using this
 have HB : Hid (Below w w ((w.alloc (.cells #[.bool ng, .slice A k c, .bool false, .slice none 0 0] 85)).alloc (.cells #[.bool false, .slice none 0 0, .bool false, .slice none 0 0] 85))) := (βA _).alloc (by simp) _;have K1 := η (bX n ng A k c ((w.alloc (.cells #[.bool ng, .slice A k c, .bool false, .slice none 0 0] 85)).alloc (.cells #[.bool false, .slice none 0 0, .bool false, .slice none 0 0] 85)) (h.upto HB.out) h0 h1);have K2 := η fun W => cG n W h0 h1
 clear h h0 h1;go_enter Tryz.func176, Tryz.ntmps176;go_wp2_with fail;refine K1.out.mono ?_;rintro e w1 ⟨rfl, hb1⟩;have hz1 : w + 1 < w1.heap.size := νl (by simp) hb1.size;have HY1 := η (HY.out.up hb1 (by simp));have HB1 := η (HB.out.trans (hb1.mono (by simp; omega)));clear hb1 HX HY HB K1;go_wp2_with fail;refine (K2.out _).mono ?_;rintro e w2 ⟨a0, a1, rfl, hv, hb2⟩;obtain ⟨ng, A, k, c, rfl, rfl⟩ := hv.form;have hz2 : w + 1 < w2.heap.size := νl hz1 hb2.size;have HY2 := η (HY1.out.up hb2 hz1);have HB2 := η (HB1.out.trans (hb2.mono (by omega)));have HN := η (hv.mono (base' := w + 2) hz1);clear hb2 HY1 HB1 hv K2;obtain ⟨q0, s0, q1, s1, q2, s2, q3, s3⟩ := sqX4 HY2.out;go_wp2_with fail;have HF : Hid (Below w w ((((w2.setCell ⟨w + 1, 0, none⟩ (.bool ng)).setCell ⟨w + 1, 1, none⟩ (.slice A k c)).setCell ⟨w + 1, 2, none⟩ (.bool false)).setCell ⟨w + 1, 3, none⟩ (.slice none 0 0))) := zI HB2.out (show w ≤ w.heap.size + 1 by omega) [.bool ng, .slice A k c, .bool false, .slice none 0 0] 0;have HM : Hid (N1 ((((w2.setCell ⟨w + 1, 0, none⟩ (.bool ng)).setCell ⟨w + 1, 1, none⟩ (.slice A k c)).setCell ⟨w + 1, 2, none⟩ (.bool false)).setCell ⟨w + 1, 3, none⟩ (.slice none 0 0)) w (.bool ng) (.slice A k c) n) := ((((HN.out.set (p := ⟨w + 1, 0, none⟩) (by simp) (.bool ng)).set (p := ⟨w + 1, 1, none⟩) (by simp) (.slice A k c)).set (p := ⟨w + 1, 2, none⟩) (by simp) (.bool false)).set (p := ⟨w + 1, 3, none⟩) (by simp) (.slice none 0 0)).mono (by omega);exact κr (v := .agg #[.bool ng, .slice A k c, .bool false, .slice none 0 0]) (by simp [results, Tryz.results176, go_sem, q0, q1, q2, q3]) rfl ⟨_, _, rfl, HM.out, HF.out⟩
theorem kA (n : Int) (ng : Bool) (A : Option Addr) (k c : Nat) (w : World) (h : NumR w w (.agg #[.bool ng, .slice A k c]) n) (h0 : -2147483648 < n) (h1 : n < 2147483648) :
  Calls Tryz.prog 131 #[.agg #[.bool ng, .slice A k c, .bool false, .slice none 0 0]] w fun e w' => e = .returned (.string (bstr (Lib.itoa n))) ∧ Below w w w' := by
 have HB : Hid (Below w w (w.alloc (.cells #[.bool ng, .slice A k c, .bool false, .slice none 0 0] 85))) := βA _;have K1 := η (eZ n ng A k c (w.alloc (.cells #[.bool ng, .slice A k c, .bool false, .slice none 0 0] 85)) (h.upto HB.out) h0 h1);clear h h0 h1;go_enter Tryz.func131, Tryz.ntmps131;go_wp2_with fail;refine K1.out.mono ?_;rintro e w1 ⟨a0, a1, rfl, hv, hb1⟩;obtain ⟨ng, A, k, c, rfl, rfl⟩ := hv.form;have HB1 := η ((HB.out.trans (hb1.mono (by simp))).alloc (by have := hb1.size; simp at this; omega) (.cells #[.bool ng, .slice A k c, .bool false, .slice none 0 0] 85));have K2 := η (pP n _ _ _ (w1.alloc (.cells #[.bool ng, .slice A k c, .bool false, .slice none 0 0] 85)) (hv.below (βA _)));clear hb1 hv K1 HB;go_wp2_with fail;refine K2.out.mono ?_;rintro e w2 ⟨rfl, hb2⟩;have HB2 := βT HB1 hb2;clear hb2 HB1 K2;go_wp2_with fail;go_ret;exact ⟨rfl, HB2.out⟩
end Go.Proofs.YtkfhpefmmhljmaaGreatDoor
