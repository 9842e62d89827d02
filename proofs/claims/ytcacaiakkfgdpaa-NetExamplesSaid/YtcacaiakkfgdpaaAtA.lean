/- net.At. -/
import Derived.Test.YtcacaiakkfgdpaaNetE
import Derived.Test.YtcacaiakkfgdpaaOnly
import Derived.Test.YtcacaiakkfgdpaaAnyG
namespace Go.Proofs.Ytcacaiakkfgdpaa
open Go.RowKit Go.Shelf
set_option linter.unusedVariables false
attribute [local go_sem] Oper.semAt_some

/-- The line is at the bus. -/
def lnAt (l : Ln) (bus : Int) : Bool := (l.1 == bus) || (l.2.1 == bus)
/-- Those of the lines that are at the bus. -/
def atF (ls : List Ln) (bus : Int) (ks : List Int) : List Int := ks.filter fun k => lnAt (ls.getD k.toNat (0, 0, 0, 0)) bus
theorem atF_le (ls : List Ln) (bus : Int) (ks : List Int) : (atF ls bus ks).length ≤ ks.length := List.length_filter_le _ _
theorem atF_yes {ls : List Ln} {bus : Int} {ks : List Int} {k : Nat} (h : lnAt (ls.getD k (0, 0, 0, 0)) bus = true) : atF ls bus (ks ++ [(k : Int)]) = atF ls bus ks ++ [(k : Int)] := by
  rw [atF, List.filter_append]
  congr 1
  rw [List.filter_cons, if_pos (by rw [Int.toNat_natCast]; exact h)]
  rfl
theorem atF_no {ls : List Ln} {bus : Int} {ks : List Int} {k : Nat} (h : lnAt (ls.getD k (0, 0, 0, 0)) bus = false) : atF ls bus (ks ++ [(k : Int)]) = atF ls bus ks := by
  rw [atF, List.filter_append, List.filter_cons, if_neg (by rw [Int.toNat_natCast, h]; simp)]
  simp [atF]

/-- After some rounds. -/
def AtJ (ls : List Ln) (bus : Int) (w0 : World) (Bl n1 : Nat) (pre : List Int) (W : World) : Prop :=
  ∃ v, Boxed W Bl 25 v ∧ W.ownsRow n1 3 1 v (atF ls bus pre).length ((atF ls bus pre).map (Value.int .i64)) ∧ Below Bl w0 W ∧ n1 ≤ W.heap.size
theorem row_keptA {W W' : World} {base : Nat} {e : TypeId} {size : Nat} {v : Value} {n : Nat} {xs : List Value} {row : Option Nat} (h : W.ownsRow base e size v n xs) (hg : W.grownBy W' row) (hr : ∀ r, row = some r → ∃ o : Obj, W.heap[r]? = some o ∧ o.isCells = false) : W'.ownsRow base e size v n xs := by
  refine h.kept hg ?_
  rcases h.2 with ⟨rfl, _⟩ | ⟨g, cap, cur, rfl, _, hgb, _⟩
  · exact .inl rfl
  · right
    intro e'
    obtain ⟨o, ho, hc⟩ := hr g e'.symm
    rw [hgb] at ho
    cases ho
    cases hc
theorem atJ_own {α : Type} (f : α → Int) (ls : List Ln) (bus : Int) (w0 : World) (Bl n1 B : Nat) (h0 : Bl ≤ w0.heap.size) (hB : Bl ≤ B) : OwnFrom B (fun (pre : List α) W => AtJ ls bus w0 Bl n1 (pre.map f) W) := by
  rintro s W W' row ⟨v, hl, hrl, hb, hz⟩ hg hr
  refine ⟨v, ?_, row_keptA hrl hg (fun r e => (hr r e).2), hb.grown hg (Nat.le_trans h0 hb.size) (fun k e => Nat.le_trans hB (hr k e).1), Nat.le_trans hz hg.size⟩
  refine hl.kept hg (fun e => ?_)
  obtain ⟨o, ho, hc⟩ := (hr _ e.symm).2
  rw [show W.heap[Bl]? = _ from hl] at ho
  cases ho
  cases hc

theorem keeps_drewA (W : World) : KeepsOthers W W.drew := ⟨Nat.le_refl _, fun _ _ h _ => h⟩

set_option maxRecDepth 100000 in
set_option maxHeartbeats 4000000 in
theorem at_ok (nb : Int) (A A' : Option Addr) (c c' : Nat) (ls : List Ln) (out : List Int) (bus : Int) (w : World) (hl : LinesR w w.heap.size A ls) (ho : IntsR w w.heap.size A' out)
    (hm : ls.length ≤ 1000000) (hn : out.length ≤ 1000000) (he : outsE nb ls out = 0) (hbu : busB nb bus = true) :
    Calls Try.prog 22 #[.agg #[.int .i64 nb, .slice A ls.length c], .slice A' out.length c', .int .i64 bus] w (IntsE w (atF ls bus (svcL out ls.length)) 0) := by
  obtain ⟨i0, hi, hz0, hz1, hz2⟩ := info_parts info_int
  have hcall := fun W hl ho => outs_any nb A A' c c' ls out W hl ho hm hn
  rw [he] at hcall
  have hcb := fun W => isBus_any nb bus (.slice A ls.length c) W
  rw [hbu] at hcb
  have HCALL := Lib.hid hcall
  have HCB := Lib.hid hcb
  have HL := Lib.hid hl
  have HO := Lib.hid ho
  clear hcall hl ho he hcb hbu
  refine (callsIn_wide (n := 8)).1 ?_
  refine callsIn_of_wp_marks Try.func22 rfl trivial ?_ rfl
  simp only [Try.ntmps22, List.size_toArray, List.length_cons, List.length_nil, Nat.reduceAdd, Nat.reduceSub, Array.replicate_succ, Array.replicate_zero, List.push_toArray, List.append_toArray, List.nil_append, List.cons_append]
  gi_wp2_with fail
  refine ⟨trivial, ?_⟩
  have HB0 := Lib.hid (below_alloc2 w (.cells #[.int .i64 nb, .slice A ls.length c] 24) (.cells #[.int .i64 bus] 3))
  refine (callsIn_wide.2 (HCALL.out _ (by exact HL.out.upto HB0.out) (by exact HO.out.upto HB0.out))).mono ?_
  rintro e w1 ⟨rfl, hb1⟩
  have hbs := hb1.size
  simp only [World.size_alloc] at hbs
  have c0 : w1.cell? ⟨w.heap.size, 0, none⟩ = some (.int .i64 nb) := (hb1.cell (by simp; omega)).trans (by simp)
  have c1 : w1.cell? ⟨w.heap.size, 1, none⟩ = some (.slice A ls.length c) := (hb1.cell (by simp; omega)).trans (by simp)
  have c2 : w1.cell? ⟨w.heap.size + 1, 0, none⟩ = some (.int .i64 bus) := (hb1.cell (by simp)).trans (by simp)
  have HB1 := Lib.hid (HB0.out.trans (hb1.mono HB0.out.size))
  clear hb1
  gi_wp2_with fail
  refine ⟨trivial, ?_⟩
  refine (callsIn_wide.2 (HCB.out _)).mono ?_
  rintro e w2 ⟨rfl, hb2⟩
  have hbs2 := hb2.size
  replace c0 := (hb2.cell (p := ⟨w.heap.size, 0, none⟩) (by show w.heap.size < _; omega)).trans c0
  replace c1 := (hb2.cell (p := ⟨w.heap.size, 1, none⟩) (by show w.heap.size < _; omega)).trans c1
  replace c2 := (hb2.cell (p := ⟨w.heap.size + 1, 0, none⟩) (by show w.heap.size + 1 < _; omega)).trans c2
  have HB2 := Lib.hid (HB1.out.trans (hb2.mono HB1.out.size))
  have hz : w.heap.size < w2.heap.size := by omega
  have hzz : w.heap.size + 1 < w2.heap.size := by omega
  clear hb2
  gi_wp2_with fail
  refine ⟨trivial, ?_⟩
  refine (inService_in _ _ _ _ A A' c c' _ _ _ rfl rfl).mono ?_
  rintro e w' ⟨rfl, rfl⟩
  gi_wp2_with fail
  obtain ⟨W0, hW0⟩ : ∃ W0 : World, W0 = ((w2.alloc (.cells #[.slice none 0 0] 25)).alloc (.cells #[.int .i64 nb, .slice A ls.length c] 24)).alloc (.cells #[.slice A' out.length c'] 25) := ⟨_, rfl⟩
  have hsz : W0.heap.size = w2.heap.size + 3 := by rw [hW0]; simp
  have bN : W0.cell? ⟨w2.heap.size + 1, 1, none⟩ = some (.slice A ls.length c) := by rw [hW0]; exact cell_alloc_of _ (cell_alloc_at _ _ _ _ _ (by simp))
  have bP : W0.cell? ⟨w2.heap.size + 1 + 1, 0, none⟩ = some (.slice A' out.length c') := by rw [hW0]; exact cell_alloc_at _ _ _ _ _ (by simp)
  have hB20 : Below w2.heap.size w2 W0 := by rw [hW0]; exact (((Below.refl _ _).alloc (Nat.le_refl _) _).alloc (by simp) _).alloc (by simp; omega) _
  have dL : Boxed W0 w2.heap.size 25 (.slice none 0 0) := by rw [hW0]; exact ((Boxed.new w2 25 (.slice none 0 0)).alloc _).alloc _
  rw [← hW0]
  have hO0 : IntsR W0 w.heap.size A' out := (HO.out.below HB2.out).below (hB20.mono (by omega))
  have hL0 : LinesR W0 w.heap.size A ls := (HL.out.below HB2.out).below (hB20.mono (by omega))
  have c1' := (hB20.cell (p := ⟨w.heap.size, 1, none⟩) hz).trans c1
  have c2' := (hB20.cell (p := ⟨w.heap.size + 1, 0, none⟩) hzz).trans c2
  have HBW := Lib.hid (HB2.out.trans (hB20.mono (by omega)))
  clear hW0 hB20 c0 c1 c2 HB1 HB2 HB0 HCALL HCB HL HO
  refine wpIn_rangeFunc_ownG rfl (by omega) (gf := 57) (lb := #[.pointer (some ⟨w2.heap.size + 1, 0, none⟩), .pointer (some ⟨w2.heap.size + 1 + 1, 0, none⟩)]) (by simp [Act.eval]) trivial (enters_of Try.func57 (by kernel_rfl) rfl)
    (inService_stopsR (8 - 1) (by omega) (w2.heap.size + 1) (w2.heap.size + 1 + 1) w.heap.size (w2.heap.size + 3) w2.heap.size w2.heap.size ls.length A A' c c' out hm hn (by omega) (by omega) (by omega) (by omega) (by omega) (by omega) (by omega) (by omega) (by omega) _ (by omega) bN bP hO0) KeptBut.trans (keptBut_put (by omega)) (Below.refl _ _) (fun _ => rfl)
    (fun pre W => AtJ ls bus W0 w2.heap.size (w2.heap.size + 3) (pre.map (·.1)) W)
    (fun _ _ _ => False)
    (atJ_own (fun x : { x : Int // 0 ≤ x ∧ x < (ls.length : Int) } => x.1) ls bus W0 w2.heap.size (w2.heap.size + 3) W0.heap.size (by omega) (by omega))
    (fun _ _ _ _ _ hs _ _ => hs)
    ⟨_, dL, World.ownsRow_nil _ _ _ _, Below.refl _ _, by omega⟩
    (fun x => { tmps := #[.agg #[.int .i64 nb, .slice A ls.length c], .slice A' out.length c', .int .i64 bus, .pointer (some ⟨w.heap.size, 0, none⟩), undef, .pointer (some ⟨w.heap.size + 1, 0, none⟩), .slice none 0 0, .int .i64 0, .int .i64 0, .pointer (some ⟨w2.heap.size, 0, none⟩), .int .i64 x.1, .agg #[.int .i64 nb, .slice A ls.length c], .slice A' out.length c', .int .i64 0, .int .i64 0, .bool false, undef, .agg #[.int .i64 nb, .slice A ls.length c], .int .i64 bus, .bool true, .bool false, .agg #[.int .i64 nb, .slice A ls.length c], .slice A' out.length c', .func (.func 57) #[] #[.pointer (some ⟨w2.heap.size + 1, 0, none⟩), .pointer (some ⟨w2.heap.size + 1 + 1, 0, none⟩)], .int .i64 x.1, undef, undef, undef, undef, undef, undef, undef, undef, undef, undef, undef, undef, undef, undef, undef, undef, undef, undef, undef, undef, undef, undef, undef], defers := [] }) ?assign ?body ?done ?stop
  case assign =>
    intro l x W K hK
    gi_wp2
    exact hK
  case body =>
    rintro l pre ⟨x, hx0, hx1⟩ W ⟨v, hv, hrow, hB, hz3⟩ hlt
    obtain ⟨k, rfl⟩ := Int.eq_ofNat_of_zero_le hx0
    have hk : k < ls.length := by omega
    obtain ⟨b, off, rfl, hbb, hcc⟩ := hL0 (by omega)
    obtain ⟨l0, l1, l2, l3⟩ := hcc k hk
    have g0 := (hB.cell (p := ⟨b, off + k * 4, none⟩) (by show b < _; omega)).trans l0
    have g1 := (hB.cell (p := ⟨b, off + k * 4 + 1, none⟩) (by show b < _; omega)).trans l1
    have c1 := (hB.cell (p := ⟨w.heap.size, 1, none⟩) (by show w.heap.size < _; omega)).trans c1'
    have c2 := (hB.cell (p := ⟨w.heap.size + 1, 0, none⟩) (by show w.heap.size + 1 < _; omega)).trans c2'
    have hpl : (pre.map (·.1)).length < 1000000 := by simp; omega
    clear hcc l0 l1 l2 l3 c1' c2' dL bN bP hO0 hL0
    have e5 : List.map (fun x : { x : Int // 0 ≤ x ∧ x < (ls.length : Int) } => x.1) (pre ++ [⟨(k : Int), hx0, hx1⟩]) = pre.map (·.1) ++ [(k : Int)] := by rw [List.map_append]; rfl
    have HQ := Lib.hid (And.intro hv (And.intro hrow (And.intro hB e5)))
    generalize hpre : pre.map (·.1) = ps at *
    clear hv hrow hB e5 hpre
    have i1 : (0 : Int) ≤ (k : Int) := by omega
    have i2 : (k : Int) < (ls.length : Int) := by omega
    cases hq : lnAt (ls.getD k (0, 0, 0, 0)) bus with
    | false =>
        have HF := Lib.hid (atF_no (ls := ls) (bus := bus) (ks := ps) hq)
        unfold lnAt at hq
        rw [Bool.or_eq_false_iff] at hq
        obtain ⟨b1, b2⟩ := hq
        generalize (ls.getD k (0, 0, 0, 0)).1 = y0 at *
        generalize (ls.getD k (0, 0, 0, 0)).2.1 = y1 at *
        gi_wp2_with fail
        refine region_quietIn (fun j => match j with | 0 => .pointer (some ⟨w.heap.size, 1, none⟩) | 1 => .slice (some ⟨b, off, none⟩) ls.length c | 2 => .int .i64 (k : Int) | 3 => .pointer (some ⟨b, off + k * 4, none⟩) | 4 => .pointer (some ⟨b, off + k * 4, none⟩) | 5 => .int .i64 y0 | 6 => .int .i64 bus | 7 => .bool false | 8 => .bool false | 9 => .pointer (some ⟨w.heap.size, 1, none⟩) | 10 => .slice (some ⟨b, off, none⟩) ls.length c | 11 => .int .i64 (k : Int) | 12 => .pointer (some ⟨b, off + k * 4, none⟩) | 13 => .pointer (some ⟨b, off + k * 4 + 1, none⟩) | 14 => .int .i64 y1 | 15 => .int .i64 bus | 16 => .bool false | 17 => .bool false | _ => undef) (by kernel_rfl) (by kernel_rfl) ?_ ?_
        · intro i o ho a hdep hrest hgd
          have r3 : a.eval (.tmp 3) = .pointer (some ⟨w.heap.size, 0, none⟩) := hrest 3 (apart_of (by kernel_rfl))
          have r5 : a.eval (.tmp 5) = .pointer (some ⟨w.heap.size + 1, 0, none⟩) := hrest 5 (apart_of (by kernel_rfl))
          have r10 : a.eval (.tmp 10) = .int .i64 (k : Int) := hrest 10 (apart_of (by kernel_rfl))
          have hc : ∀ v, a.eval (.const v) = v := fun _ => rfl
          clear hrest
          rcases i with _ | _ | _ | _ | _ | _ | _ | _ | _ | _ | _ | _ | _ | _ | _ | _ | _ | _ | i
          · injection ho with ho
            subst ho
            clear hdep hgd
            refine ⟨fun _ => ?_, fun hw => by simp [Region.wanted] at hw⟩
            generalize a.eval = ρ at *
            simp [go_sem, r3]
          · injection ho with ho
            subst ho
            have e0 : a.eval (.tmp 25) = .pointer (some ⟨w.heap.size, 1, none⟩) := hdep ⟨0, .data⟩ (by simp) rfl _ _ rfl rfl
            clear hdep hgd
            refine ⟨fun _ => ?_, fun hw => by simp [Region.wanted] at hw⟩
            generalize a.eval = ρ at *
            simp [go_sem, e0, c1]
          · injection ho with ho
            subst ho
            clear hdep hgd
            refine ⟨fun _ => ?_, fun hw => by simp [Region.wanted] at hw⟩
            generalize a.eval = ρ at *
            simp [go_sem, r10]
          · injection ho with ho
            subst ho
            have e1 : a.eval (.tmp 26) = .slice (some ⟨b, off, none⟩) ls.length c := hdep ⟨1, .data⟩ (by simp) rfl _ _ rfl rfl
            have e2 : a.eval (.tmp 27) = .int .i64 (k : Int) := hdep ⟨2, .data⟩ (by simp) rfl _ _ rfl rfl
            clear hdep hgd
            refine ⟨fun _ => ?_, fun hw => by simp [Region.wanted] at hw⟩
            generalize a.eval = ρ at *
            simp [go_sem, e1, e2, i1, i2]
          · injection ho with ho
            subst ho
            have e3 : a.eval (.tmp 28) = .pointer (some ⟨b, off + k * 4, none⟩) := hdep ⟨3, .data⟩ (by simp) rfl _ _ rfl rfl
            clear hdep hgd
            refine ⟨fun _ => ?_, fun hw => by simp [Region.wanted] at hw⟩
            generalize a.eval = ρ at *
            simp [go_sem, e3]
          · injection ho with ho
            subst ho
            have e4 : a.eval (.tmp 29) = .pointer (some ⟨b, off + k * 4, none⟩) := hdep ⟨4, .data⟩ (by simp) rfl _ _ rfl rfl
            clear hdep hgd
            refine ⟨fun _ => ?_, fun hw => by simp [Region.wanted] at hw⟩
            generalize a.eval = ρ at *
            simp [go_sem, e4, g0]
          · injection ho with ho
            subst ho
            clear hdep hgd
            refine ⟨fun _ => ?_, fun hw => by simp [Region.wanted] at hw⟩
            generalize a.eval = ρ at *
            simp [go_sem, r5, c2]
          · injection ho with ho
            subst ho
            have e5 : a.eval (.tmp 30) = .int .i64 y0 := hdep ⟨5, .data⟩ (by simp) rfl _ _ rfl rfl
            have e6 : a.eval (.tmp 31) = .int .i64 bus := hdep ⟨6, .data⟩ (by simp) rfl _ _ rfl rfl
            clear hdep hgd
            refine ⟨fun _ => ?_, fun hw => by simp [Region.wanted] at hw⟩
            generalize a.eval = ρ at *
            simp [go_sem, e5, e6, b1]
          · injection ho with ho
            subst ho
            have e7 : a.eval (.tmp 32) = .bool false := hdep ⟨7, .data⟩ (by simp) rfl _ _ rfl rfl
            clear hdep hgd
            refine ⟨fun _ => ?_, fun hw => by simp [Region.wanted] at hw⟩
            generalize a.eval = ρ at *
            simp [go_sem, e7]
          · injection ho with ho
            subst ho
            have h8 : a.tmps.getD 33 undef = .bool false := hdep ⟨8, .guard⟩ (by simp) rfl _ _ rfl rfl
            have hwd := hgd 8 false rfl _ _ rfl rfl false h8
            clear hdep hgd
            refine ⟨fun _ => ?_, fun hw => (by rw [hwd] at hw; cases hw)⟩
            clear h8 hwd
            generalize a.eval = ρ at *
            simp [go_sem, r3]
          · injection ho with ho
            subst ho
            have e9 : a.eval (.tmp 34) = .pointer (some ⟨w.heap.size, 1, none⟩) := hdep ⟨9, .data⟩ (by simp) rfl _ _ rfl rfl
            have h8 : a.tmps.getD 33 undef = .bool false := hdep ⟨8, .guard⟩ (by simp) rfl _ _ rfl rfl
            have hwd := hgd 8 false rfl _ _ rfl rfl false h8
            clear hdep hgd
            refine ⟨fun _ => ?_, fun hw => (by rw [hwd] at hw; cases hw)⟩
            clear h8 hwd
            generalize a.eval = ρ at *
            simp [go_sem, e9, c1]
          · injection ho with ho
            subst ho
            have h8 : a.tmps.getD 33 undef = .bool false := hdep ⟨8, .guard⟩ (by simp) rfl _ _ rfl rfl
            have hwd := hgd 8 false rfl _ _ rfl rfl false h8
            clear hdep hgd
            refine ⟨fun _ => ?_, fun hw => (by rw [hwd] at hw; cases hw)⟩
            clear h8 hwd
            generalize a.eval = ρ at *
            simp [go_sem, r10]
          · injection ho with ho
            subst ho
            have e10 : a.eval (.tmp 35) = .slice (some ⟨b, off, none⟩) ls.length c := hdep ⟨10, .data⟩ (by simp) rfl _ _ rfl rfl
            have e11 : a.eval (.tmp 36) = .int .i64 (k : Int) := hdep ⟨11, .data⟩ (by simp) rfl _ _ rfl rfl
            have h8 : a.tmps.getD 33 undef = .bool false := hdep ⟨8, .guard⟩ (by simp) rfl _ _ rfl rfl
            have hwd := hgd 8 false rfl _ _ rfl rfl false h8
            clear hdep hgd
            refine ⟨fun _ => ?_, fun hw => (by rw [hwd] at hw; cases hw)⟩
            clear h8 hwd
            generalize a.eval = ρ at *
            simp [go_sem, e10, e11, i1, i2]
          · injection ho with ho
            subst ho
            have e12 : a.eval (.tmp 37) = .pointer (some ⟨b, off + k * 4, none⟩) := hdep ⟨12, .data⟩ (by simp) rfl _ _ rfl rfl
            have h8 : a.tmps.getD 33 undef = .bool false := hdep ⟨8, .guard⟩ (by simp) rfl _ _ rfl rfl
            have hwd := hgd 8 false rfl _ _ rfl rfl false h8
            clear hdep hgd
            refine ⟨fun _ => ?_, fun hw => (by rw [hwd] at hw; cases hw)⟩
            clear h8 hwd
            generalize a.eval = ρ at *
            simp [go_sem, e12]
          · injection ho with ho
            subst ho
            have e13 : a.eval (.tmp 38) = .pointer (some ⟨b, off + k * 4 + 1, none⟩) := hdep ⟨13, .data⟩ (by simp) rfl _ _ rfl rfl
            have h8 : a.tmps.getD 33 undef = .bool false := hdep ⟨8, .guard⟩ (by simp) rfl _ _ rfl rfl
            have hwd := hgd 8 false rfl _ _ rfl rfl false h8
            clear hdep hgd
            refine ⟨fun _ => ?_, fun hw => (by rw [hwd] at hw; cases hw)⟩
            clear h8 hwd
            generalize a.eval = ρ at *
            simp [go_sem, e13, g1]
          · injection ho with ho
            subst ho
            have h8 : a.tmps.getD 33 undef = .bool false := hdep ⟨8, .guard⟩ (by simp) rfl _ _ rfl rfl
            have hwd := hgd 8 false rfl _ _ rfl rfl false h8
            clear hdep hgd
            refine ⟨fun _ => ?_, fun hw => (by rw [hwd] at hw; cases hw)⟩
            clear h8 hwd
            generalize a.eval = ρ at *
            simp [go_sem, r5, c2]
          · injection ho with ho
            subst ho
            have e14 : a.eval (.tmp 39) = .int .i64 y1 := hdep ⟨14, .data⟩ (by simp) rfl _ _ rfl rfl
            have e15 : a.eval (.tmp 40) = .int .i64 bus := hdep ⟨15, .data⟩ (by simp) rfl _ _ rfl rfl
            have h8 : a.tmps.getD 33 undef = .bool false := hdep ⟨8, .guard⟩ (by simp) rfl _ _ rfl rfl
            have hwd := hgd 8 false rfl _ _ rfl rfl false h8
            clear hdep hgd
            refine ⟨fun _ => ?_, fun hw => (by rw [hwd] at hw; cases hw)⟩
            clear h8 hwd
            generalize a.eval = ρ at *
            simp [go_sem, e14, e15, b2]
          · injection ho with ho
            subst ho
            have e8 : a.eval (.tmp 33) = .bool false := hdep ⟨8, .data⟩ (by simp) rfl _ _ rfl rfl
            have e16 : a.eval (.tmp 41) = .bool false := hdep ⟨16, .data⟩ (by simp) rfl _ _ rfl rfl
            clear hdep hgd
            refine ⟨fun _ => ?_, fun hw => by simp [Region.wanted] at hw⟩
            generalize a.eval = ρ at *
            simp [go_sem, e8, e16]
          · simp at ho
        simp only [putAll, Act.put, List.setIfInBounds_toArray, List.set_cons_zero, List.set_cons_succ, Nat.reduceAdd]
        gi_wp2_with fail
        have hdr := (Below.refl w2.heap.size W).drew
        refine ⟨(KeepsOthers.from (keeps_drewA W) _), fun j _ _ _ => rfl, ?_⟩
        show AtJ ls bus W0 w2.heap.size (w2.heap.size + 3) (List.map (fun x : { x : Int // 0 ≤ x ∧ x < (ls.length : Int) } => x.1) (pre ++ [⟨(k : Int), hx0, hx1⟩])) _
        rw [HQ.out.2.2.2]
        unfold AtJ
        rw [HF.out]
        exact ⟨v, HQ.out.1, HQ.out.2.1.drew, HQ.out.2.2.1.drew, hz3⟩
    | true =>
      cases b1 : ((ls.getD k (0, 0, 0, 0)).1 == bus) with
      | true =>
        have HF := Lib.hid (atF_yes (ls := ls) (bus := bus) (ks := ps) hq)
        have hal := atF_le ls bus ps
        clear hq
        generalize (ls.getD k (0, 0, 0, 0)).1 = y0 at *
        generalize (ls.getD k (0, 0, 0, 0)).2.1 = y1 at *
        gi_wp2_with fail
        refine region_quietIn (fun j => match j with | 0 => .pointer (some ⟨w.heap.size, 1, none⟩) | 1 => .slice (some ⟨b, off, none⟩) ls.length c | 2 => .int .i64 (k : Int) | 3 => .pointer (some ⟨b, off + k * 4, none⟩) | 4 => .pointer (some ⟨b, off + k * 4, none⟩) | 5 => .int .i64 y0 | 6 => .int .i64 bus | 7 => .bool true | 8 => .bool true | 9 => undef | 10 => undef | 11 => undef | 12 => undef | 13 => undef | 14 => undef | 15 => undef | 16 => undef | 17 => .bool true | _ => undef) (by kernel_rfl) (by kernel_rfl) ?_ ?_
        · intro i o ho a hdep hrest hgd
          have r3 : a.eval (.tmp 3) = .pointer (some ⟨w.heap.size, 0, none⟩) := hrest 3 (apart_of (by kernel_rfl))
          have r5 : a.eval (.tmp 5) = .pointer (some ⟨w.heap.size + 1, 0, none⟩) := hrest 5 (apart_of (by kernel_rfl))
          have r10 : a.eval (.tmp 10) = .int .i64 (k : Int) := hrest 10 (apart_of (by kernel_rfl))
          have hc : ∀ v, a.eval (.const v) = v := fun _ => rfl
          clear hrest
          rcases i with _ | _ | _ | _ | _ | _ | _ | _ | _ | _ | _ | _ | _ | _ | _ | _ | _ | _ | i
          · injection ho with ho
            subst ho
            clear hdep hgd
            refine ⟨fun _ => ?_, fun hw => by simp [Region.wanted] at hw⟩
            generalize a.eval = ρ at *
            simp [go_sem, r3]
          · injection ho with ho
            subst ho
            have e0 : a.eval (.tmp 25) = .pointer (some ⟨w.heap.size, 1, none⟩) := hdep ⟨0, .data⟩ (by simp) rfl _ _ rfl rfl
            clear hdep hgd
            refine ⟨fun _ => ?_, fun hw => by simp [Region.wanted] at hw⟩
            generalize a.eval = ρ at *
            simp [go_sem, e0, c1]
          · injection ho with ho
            subst ho
            clear hdep hgd
            refine ⟨fun _ => ?_, fun hw => by simp [Region.wanted] at hw⟩
            generalize a.eval = ρ at *
            simp [go_sem, r10]
          · injection ho with ho
            subst ho
            have e1 : a.eval (.tmp 26) = .slice (some ⟨b, off, none⟩) ls.length c := hdep ⟨1, .data⟩ (by simp) rfl _ _ rfl rfl
            have e2 : a.eval (.tmp 27) = .int .i64 (k : Int) := hdep ⟨2, .data⟩ (by simp) rfl _ _ rfl rfl
            clear hdep hgd
            refine ⟨fun _ => ?_, fun hw => by simp [Region.wanted] at hw⟩
            generalize a.eval = ρ at *
            simp [go_sem, e1, e2, i1, i2]
          · injection ho with ho
            subst ho
            have e3 : a.eval (.tmp 28) = .pointer (some ⟨b, off + k * 4, none⟩) := hdep ⟨3, .data⟩ (by simp) rfl _ _ rfl rfl
            clear hdep hgd
            refine ⟨fun _ => ?_, fun hw => by simp [Region.wanted] at hw⟩
            generalize a.eval = ρ at *
            simp [go_sem, e3]
          · injection ho with ho
            subst ho
            have e4 : a.eval (.tmp 29) = .pointer (some ⟨b, off + k * 4, none⟩) := hdep ⟨4, .data⟩ (by simp) rfl _ _ rfl rfl
            clear hdep hgd
            refine ⟨fun _ => ?_, fun hw => by simp [Region.wanted] at hw⟩
            generalize a.eval = ρ at *
            simp [go_sem, e4, g0]
          · injection ho with ho
            subst ho
            clear hdep hgd
            refine ⟨fun _ => ?_, fun hw => by simp [Region.wanted] at hw⟩
            generalize a.eval = ρ at *
            simp [go_sem, r5, c2]
          · injection ho with ho
            subst ho
            have e5 : a.eval (.tmp 30) = .int .i64 y0 := hdep ⟨5, .data⟩ (by simp) rfl _ _ rfl rfl
            have e6 : a.eval (.tmp 31) = .int .i64 bus := hdep ⟨6, .data⟩ (by simp) rfl _ _ rfl rfl
            clear hdep hgd
            refine ⟨fun _ => ?_, fun hw => by simp [Region.wanted] at hw⟩
            generalize a.eval = ρ at *
            simp [go_sem, e5, e6, b1]
          · injection ho with ho
            subst ho
            have e7 : a.eval (.tmp 32) = .bool true := hdep ⟨7, .data⟩ (by simp) rfl _ _ rfl rfl
            clear hdep hgd
            refine ⟨fun _ => ?_, fun hw => by simp [Region.wanted] at hw⟩
            generalize a.eval = ρ at *
            simp [go_sem, e7]
          · injection ho with ho
            subst ho
            have h8 : a.tmps.getD 33 undef = .bool true := hdep ⟨8, .guard⟩ (by simp) rfl _ _ rfl rfl
            have hwd := hgd 8 false rfl _ _ rfl rfl true h8
            clear hdep hgd
            exact ⟨fun hw => (by rw [hwd] at hw; cases hw), fun _ => rfl⟩
          · injection ho with ho
            subst ho
            have e9 : a.eval (.tmp 34) = undef := hdep ⟨9, .data⟩ (by simp) rfl _ _ rfl rfl
            have h8 : a.tmps.getD 33 undef = .bool true := hdep ⟨8, .guard⟩ (by simp) rfl _ _ rfl rfl
            have hwd := hgd 8 false rfl _ _ rfl rfl true h8
            clear hdep hgd
            exact ⟨fun hw => (by rw [hwd] at hw; cases hw), fun _ => rfl⟩
          · injection ho with ho
            subst ho
            have h8 : a.tmps.getD 33 undef = .bool true := hdep ⟨8, .guard⟩ (by simp) rfl _ _ rfl rfl
            have hwd := hgd 8 false rfl _ _ rfl rfl true h8
            clear hdep hgd
            exact ⟨fun hw => (by rw [hwd] at hw; cases hw), fun _ => rfl⟩
          · injection ho with ho
            subst ho
            have e10 : a.eval (.tmp 35) = undef := hdep ⟨10, .data⟩ (by simp) rfl _ _ rfl rfl
            have e11 : a.eval (.tmp 36) = undef := hdep ⟨11, .data⟩ (by simp) rfl _ _ rfl rfl
            have h8 : a.tmps.getD 33 undef = .bool true := hdep ⟨8, .guard⟩ (by simp) rfl _ _ rfl rfl
            have hwd := hgd 8 false rfl _ _ rfl rfl true h8
            clear hdep hgd
            exact ⟨fun hw => (by rw [hwd] at hw; cases hw), fun _ => rfl⟩
          · injection ho with ho
            subst ho
            have e12 : a.eval (.tmp 37) = undef := hdep ⟨12, .data⟩ (by simp) rfl _ _ rfl rfl
            have h8 : a.tmps.getD 33 undef = .bool true := hdep ⟨8, .guard⟩ (by simp) rfl _ _ rfl rfl
            have hwd := hgd 8 false rfl _ _ rfl rfl true h8
            clear hdep hgd
            exact ⟨fun hw => (by rw [hwd] at hw; cases hw), fun _ => rfl⟩
          · injection ho with ho
            subst ho
            have e13 : a.eval (.tmp 38) = undef := hdep ⟨13, .data⟩ (by simp) rfl _ _ rfl rfl
            have h8 : a.tmps.getD 33 undef = .bool true := hdep ⟨8, .guard⟩ (by simp) rfl _ _ rfl rfl
            have hwd := hgd 8 false rfl _ _ rfl rfl true h8
            clear hdep hgd
            exact ⟨fun hw => (by rw [hwd] at hw; cases hw), fun _ => rfl⟩
          · injection ho with ho
            subst ho
            have h8 : a.tmps.getD 33 undef = .bool true := hdep ⟨8, .guard⟩ (by simp) rfl _ _ rfl rfl
            have hwd := hgd 8 false rfl _ _ rfl rfl true h8
            clear hdep hgd
            exact ⟨fun hw => (by rw [hwd] at hw; cases hw), fun _ => rfl⟩
          · injection ho with ho
            subst ho
            have e14 : a.eval (.tmp 39) = undef := hdep ⟨14, .data⟩ (by simp) rfl _ _ rfl rfl
            have e15 : a.eval (.tmp 40) = undef := hdep ⟨15, .data⟩ (by simp) rfl _ _ rfl rfl
            have h8 : a.tmps.getD 33 undef = .bool true := hdep ⟨8, .guard⟩ (by simp) rfl _ _ rfl rfl
            have hwd := hgd 8 false rfl _ _ rfl rfl true h8
            clear hdep hgd
            exact ⟨fun hw => (by rw [hwd] at hw; cases hw), fun _ => rfl⟩
          · injection ho with ho
            subst ho
            have e8 : a.eval (.tmp 33) = .bool true := hdep ⟨8, .data⟩ (by simp) rfl _ _ rfl rfl
            clear hdep hgd
            refine ⟨fun _ => ?_, fun hw => by simp [Region.wanted] at hw⟩
            generalize a.eval = ρ at *
            simp [go_sem, e8, hc]
          · simp at ho
        simp only [putAll, Act.put, List.setIfInBounds_toArray, List.set_cons_zero, List.set_cons_succ, Nat.reduceAdd]
        have hc := HQ.out.1.cell
        have hrd := HQ.out.2.1.drew
        have hvd : Boxed W.drew w2.heap.size 25 v := HQ.out.1
        have HRD := Lib.hid hrd
        have HVD := Lib.hid hvd
        clear hrd hvd
        have hzd : w2.heap.size + 3 ≤ W.drew.heap.size := hz3
        gi_wp2_with (gi_at_builtin; refine wpListIn_append_own _ rfl _ _ 25 rfl (w2.heap.size + 3) 3 i0 (.int .i64 0) 1 8 Try.underlying25 hi hz0 hz1 hz2 rfl (by decide) _ _ _ rfl ((HQ.out.2.1.alloc _).drew) ⟨W.heap.size, 0, none⟩ 1 1 [.int .i64 (k : Int)] rfl rfl (cell_one_new _ _ _) (by simp [Value.oneCell']) (by unfold maxLen; omega) (by omega) (by simp; omega) ?_; intro v' w5 hown' hgrow _; obtain ⟨g', cap', rfl⟩ := ownsRow_succ hown'; obtain ⟨hv1, hv2, hr2, hk2, hkp, hb2⟩ := box_append (W := W.drew) HVD.out (by decide) HRD.out hzd (by omega) hown' hgrow; have hc1 := hv1.cell; have hf1 := hv1.frozen; have H5 := Lib.hid (And.intro hv2 (And.intro hr2 (And.intro hk2 (And.intro hkp hb2)))); clear hown' hgrow hv2 hr2 hk2 hkp hb2)
        refine ⟨((keeps_drewA W).trans H5.out.2.2.1).from _, fun j h1 h2 h3 => H5.out.2.2.2.1 j h1 h2 h3, ?_⟩
        show AtJ ls bus W0 w2.heap.size (w2.heap.size + 3) (List.map (fun x : { x : Int // 0 ≤ x ∧ x < (ls.length : Int) } => x.1) (pre ++ [⟨(k : Int), hx0, hx1⟩])) _
        rw [HQ.out.2.2.2]
        unfold AtJ
        rw [HF.out]
        exact ⟨_, H5.out.1, by simpa using H5.out.2.1, HQ.out.2.2.1.drew.trans H5.out.2.2.2.2, Nat.le_trans hz3 H5.out.2.2.1.size⟩
      | false =>
        have b2 : ((ls.getD k (0, 0, 0, 0)).2.1 == bus) = true := by
          unfold lnAt at hq
          rw [b1, Bool.false_or] at hq
          exact hq
        have HF := Lib.hid (atF_yes (ls := ls) (bus := bus) (ks := ps) hq)
        have hal := atF_le ls bus ps
        clear hq
        generalize (ls.getD k (0, 0, 0, 0)).1 = y0 at *
        generalize (ls.getD k (0, 0, 0, 0)).2.1 = y1 at *
        gi_wp2_with fail
        refine region_quietIn (fun j => match j with | 0 => .pointer (some ⟨w.heap.size, 1, none⟩) | 1 => .slice (some ⟨b, off, none⟩) ls.length c | 2 => .int .i64 (k : Int) | 3 => .pointer (some ⟨b, off + k * 4, none⟩) | 4 => .pointer (some ⟨b, off + k * 4, none⟩) | 5 => .int .i64 y0 | 6 => .int .i64 bus | 7 => .bool false | 8 => .bool false | 9 => .pointer (some ⟨w.heap.size, 1, none⟩) | 10 => .slice (some ⟨b, off, none⟩) ls.length c | 11 => .int .i64 (k : Int) | 12 => .pointer (some ⟨b, off + k * 4, none⟩) | 13 => .pointer (some ⟨b, off + k * 4 + 1, none⟩) | 14 => .int .i64 y1 | 15 => .int .i64 bus | 16 => .bool true | 17 => .bool true | _ => undef) (by kernel_rfl) (by kernel_rfl) ?_ ?_
        · intro i o ho a hdep hrest hgd
          have r3 : a.eval (.tmp 3) = .pointer (some ⟨w.heap.size, 0, none⟩) := hrest 3 (apart_of (by kernel_rfl))
          have r5 : a.eval (.tmp 5) = .pointer (some ⟨w.heap.size + 1, 0, none⟩) := hrest 5 (apart_of (by kernel_rfl))
          have r10 : a.eval (.tmp 10) = .int .i64 (k : Int) := hrest 10 (apart_of (by kernel_rfl))
          have hc : ∀ v, a.eval (.const v) = v := fun _ => rfl
          clear hrest
          rcases i with _ | _ | _ | _ | _ | _ | _ | _ | _ | _ | _ | _ | _ | _ | _ | _ | _ | _ | i
          · injection ho with ho
            subst ho
            clear hdep hgd
            refine ⟨fun _ => ?_, fun hw => by simp [Region.wanted] at hw⟩
            generalize a.eval = ρ at *
            simp [go_sem, r3]
          · injection ho with ho
            subst ho
            have e0 : a.eval (.tmp 25) = .pointer (some ⟨w.heap.size, 1, none⟩) := hdep ⟨0, .data⟩ (by simp) rfl _ _ rfl rfl
            clear hdep hgd
            refine ⟨fun _ => ?_, fun hw => by simp [Region.wanted] at hw⟩
            generalize a.eval = ρ at *
            simp [go_sem, e0, c1]
          · injection ho with ho
            subst ho
            clear hdep hgd
            refine ⟨fun _ => ?_, fun hw => by simp [Region.wanted] at hw⟩
            generalize a.eval = ρ at *
            simp [go_sem, r10]
          · injection ho with ho
            subst ho
            have e1 : a.eval (.tmp 26) = .slice (some ⟨b, off, none⟩) ls.length c := hdep ⟨1, .data⟩ (by simp) rfl _ _ rfl rfl
            have e2 : a.eval (.tmp 27) = .int .i64 (k : Int) := hdep ⟨2, .data⟩ (by simp) rfl _ _ rfl rfl
            clear hdep hgd
            refine ⟨fun _ => ?_, fun hw => by simp [Region.wanted] at hw⟩
            generalize a.eval = ρ at *
            simp [go_sem, e1, e2, i1, i2]
          · injection ho with ho
            subst ho
            have e3 : a.eval (.tmp 28) = .pointer (some ⟨b, off + k * 4, none⟩) := hdep ⟨3, .data⟩ (by simp) rfl _ _ rfl rfl
            clear hdep hgd
            refine ⟨fun _ => ?_, fun hw => by simp [Region.wanted] at hw⟩
            generalize a.eval = ρ at *
            simp [go_sem, e3]
          · injection ho with ho
            subst ho
            have e4 : a.eval (.tmp 29) = .pointer (some ⟨b, off + k * 4, none⟩) := hdep ⟨4, .data⟩ (by simp) rfl _ _ rfl rfl
            clear hdep hgd
            refine ⟨fun _ => ?_, fun hw => by simp [Region.wanted] at hw⟩
            generalize a.eval = ρ at *
            simp [go_sem, e4, g0]
          · injection ho with ho
            subst ho
            clear hdep hgd
            refine ⟨fun _ => ?_, fun hw => by simp [Region.wanted] at hw⟩
            generalize a.eval = ρ at *
            simp [go_sem, r5, c2]
          · injection ho with ho
            subst ho
            have e5 : a.eval (.tmp 30) = .int .i64 y0 := hdep ⟨5, .data⟩ (by simp) rfl _ _ rfl rfl
            have e6 : a.eval (.tmp 31) = .int .i64 bus := hdep ⟨6, .data⟩ (by simp) rfl _ _ rfl rfl
            clear hdep hgd
            refine ⟨fun _ => ?_, fun hw => by simp [Region.wanted] at hw⟩
            generalize a.eval = ρ at *
            simp [go_sem, e5, e6, b1]
          · injection ho with ho
            subst ho
            have e7 : a.eval (.tmp 32) = .bool false := hdep ⟨7, .data⟩ (by simp) rfl _ _ rfl rfl
            clear hdep hgd
            refine ⟨fun _ => ?_, fun hw => by simp [Region.wanted] at hw⟩
            generalize a.eval = ρ at *
            simp [go_sem, e7]
          · injection ho with ho
            subst ho
            have h8 : a.tmps.getD 33 undef = .bool false := hdep ⟨8, .guard⟩ (by simp) rfl _ _ rfl rfl
            have hwd := hgd 8 false rfl _ _ rfl rfl false h8
            clear hdep hgd
            refine ⟨fun _ => ?_, fun hw => (by rw [hwd] at hw; cases hw)⟩
            clear h8 hwd
            generalize a.eval = ρ at *
            simp [go_sem, r3]
          · injection ho with ho
            subst ho
            have e9 : a.eval (.tmp 34) = .pointer (some ⟨w.heap.size, 1, none⟩) := hdep ⟨9, .data⟩ (by simp) rfl _ _ rfl rfl
            have h8 : a.tmps.getD 33 undef = .bool false := hdep ⟨8, .guard⟩ (by simp) rfl _ _ rfl rfl
            have hwd := hgd 8 false rfl _ _ rfl rfl false h8
            clear hdep hgd
            refine ⟨fun _ => ?_, fun hw => (by rw [hwd] at hw; cases hw)⟩
            clear h8 hwd
            generalize a.eval = ρ at *
            simp [go_sem, e9, c1]
          · injection ho with ho
            subst ho
            have h8 : a.tmps.getD 33 undef = .bool false := hdep ⟨8, .guard⟩ (by simp) rfl _ _ rfl rfl
            have hwd := hgd 8 false rfl _ _ rfl rfl false h8
            clear hdep hgd
            refine ⟨fun _ => ?_, fun hw => (by rw [hwd] at hw; cases hw)⟩
            clear h8 hwd
            generalize a.eval = ρ at *
            simp [go_sem, r10]
          · injection ho with ho
            subst ho
            have e10 : a.eval (.tmp 35) = .slice (some ⟨b, off, none⟩) ls.length c := hdep ⟨10, .data⟩ (by simp) rfl _ _ rfl rfl
            have e11 : a.eval (.tmp 36) = .int .i64 (k : Int) := hdep ⟨11, .data⟩ (by simp) rfl _ _ rfl rfl
            have h8 : a.tmps.getD 33 undef = .bool false := hdep ⟨8, .guard⟩ (by simp) rfl _ _ rfl rfl
            have hwd := hgd 8 false rfl _ _ rfl rfl false h8
            clear hdep hgd
            refine ⟨fun _ => ?_, fun hw => (by rw [hwd] at hw; cases hw)⟩
            clear h8 hwd
            generalize a.eval = ρ at *
            simp [go_sem, e10, e11, i1, i2]
          · injection ho with ho
            subst ho
            have e12 : a.eval (.tmp 37) = .pointer (some ⟨b, off + k * 4, none⟩) := hdep ⟨12, .data⟩ (by simp) rfl _ _ rfl rfl
            have h8 : a.tmps.getD 33 undef = .bool false := hdep ⟨8, .guard⟩ (by simp) rfl _ _ rfl rfl
            have hwd := hgd 8 false rfl _ _ rfl rfl false h8
            clear hdep hgd
            refine ⟨fun _ => ?_, fun hw => (by rw [hwd] at hw; cases hw)⟩
            clear h8 hwd
            generalize a.eval = ρ at *
            simp [go_sem, e12]
          · injection ho with ho
            subst ho
            have e13 : a.eval (.tmp 38) = .pointer (some ⟨b, off + k * 4 + 1, none⟩) := hdep ⟨13, .data⟩ (by simp) rfl _ _ rfl rfl
            have h8 : a.tmps.getD 33 undef = .bool false := hdep ⟨8, .guard⟩ (by simp) rfl _ _ rfl rfl
            have hwd := hgd 8 false rfl _ _ rfl rfl false h8
            clear hdep hgd
            refine ⟨fun _ => ?_, fun hw => (by rw [hwd] at hw; cases hw)⟩
            clear h8 hwd
            generalize a.eval = ρ at *
            simp [go_sem, e13, g1]
          · injection ho with ho
            subst ho
            have h8 : a.tmps.getD 33 undef = .bool false := hdep ⟨8, .guard⟩ (by simp) rfl _ _ rfl rfl
            have hwd := hgd 8 false rfl _ _ rfl rfl false h8
            clear hdep hgd
            refine ⟨fun _ => ?_, fun hw => (by rw [hwd] at hw; cases hw)⟩
            clear h8 hwd
            generalize a.eval = ρ at *
            simp [go_sem, r5, c2]
          · injection ho with ho
            subst ho
            have e14 : a.eval (.tmp 39) = .int .i64 y1 := hdep ⟨14, .data⟩ (by simp) rfl _ _ rfl rfl
            have e15 : a.eval (.tmp 40) = .int .i64 bus := hdep ⟨15, .data⟩ (by simp) rfl _ _ rfl rfl
            have h8 : a.tmps.getD 33 undef = .bool false := hdep ⟨8, .guard⟩ (by simp) rfl _ _ rfl rfl
            have hwd := hgd 8 false rfl _ _ rfl rfl false h8
            clear hdep hgd
            refine ⟨fun _ => ?_, fun hw => (by rw [hwd] at hw; cases hw)⟩
            clear h8 hwd
            generalize a.eval = ρ at *
            simp [go_sem, e14, e15, b2]
          · injection ho with ho
            subst ho
            have e8 : a.eval (.tmp 33) = .bool false := hdep ⟨8, .data⟩ (by simp) rfl _ _ rfl rfl
            have e16 : a.eval (.tmp 41) = .bool true := hdep ⟨16, .data⟩ (by simp) rfl _ _ rfl rfl
            clear hdep hgd
            refine ⟨fun _ => ?_, fun hw => by simp [Region.wanted] at hw⟩
            generalize a.eval = ρ at *
            simp [go_sem, e8, e16]
          · simp at ho
        simp only [putAll, Act.put, List.setIfInBounds_toArray, List.set_cons_zero, List.set_cons_succ, Nat.reduceAdd]
        have hc := HQ.out.1.cell
        have hrd := HQ.out.2.1.drew
        have hvd : Boxed W.drew w2.heap.size 25 v := HQ.out.1
        have HRD := Lib.hid hrd
        have HVD := Lib.hid hvd
        clear hrd hvd
        have hzd : w2.heap.size + 3 ≤ W.drew.heap.size := hz3
        gi_wp2_with (gi_at_builtin; refine wpListIn_append_own _ rfl _ _ 25 rfl (w2.heap.size + 3) 3 i0 (.int .i64 0) 1 8 Try.underlying25 hi hz0 hz1 hz2 rfl (by decide) _ _ _ rfl ((HQ.out.2.1.alloc _).drew) ⟨W.heap.size, 0, none⟩ 1 1 [.int .i64 (k : Int)] rfl rfl (cell_one_new _ _ _) (by simp [Value.oneCell']) (by unfold maxLen; omega) (by omega) (by simp; omega) ?_; intro v' w5 hown' hgrow _; obtain ⟨g', cap', rfl⟩ := ownsRow_succ hown'; obtain ⟨hv1, hv2, hr2, hk2, hkp, hb2⟩ := box_append (W := W.drew) HVD.out (by decide) HRD.out hzd (by omega) hown' hgrow; have hc1 := hv1.cell; have hf1 := hv1.frozen; have H5 := Lib.hid (And.intro hv2 (And.intro hr2 (And.intro hk2 (And.intro hkp hb2)))); clear hown' hgrow hv2 hr2 hk2 hkp hb2)
        refine ⟨((keeps_drewA W).trans H5.out.2.2.1).from _, fun j h1 h2 h3 => H5.out.2.2.2.1 j h1 h2 h3, ?_⟩
        show AtJ ls bus W0 w2.heap.size (w2.heap.size + 3) (List.map (fun x : { x : Int // 0 ≤ x ∧ x < (ls.length : Int) } => x.1) (pre ++ [⟨(k : Int), hx0, hx1⟩])) _
        rw [HQ.out.2.2.2]
        unfold AtJ
        rw [HF.out]
        exact ⟨_, H5.out.1, by simpa using H5.out.2.1, HQ.out.2.2.1.drew.trans H5.out.2.2.2.2, Nat.le_trans hz3 H5.out.2.2.1.size⟩
  case done =>
    rintro D ys W hD hys0 ⟨v, hv, hrow, hB, hz3⟩ hK
    have hys : ys.map (·.1) = svcL out ls.length := hys0
    rw [hys] at hrow
    have hc := hv.cell
    gi_wp2
    refine ⟨by simp, .inl ⟨_, _, rfl, run_takeDeferred hK, ?_⟩⟩
    refine ⟨_, results_tmp2 rfl _ _ _, v, rfl, ?_, ?_⟩
    · have := ownsRow_putObj hrow (.deferred none) hK rfl
      exact ownsRow_base this (by omega)
    · exact HBW.out.trans ((hB.trans (belowK_b (w := w2) (Nat.le_refl _) W D _ _ (by omega) hK rfl rfl)).mono (by omega))
  case stop =>
    rintro D c pre W _ _ h _
    exact h.elim
end Go.Proofs.Ytcacaiakkfgdpaa
