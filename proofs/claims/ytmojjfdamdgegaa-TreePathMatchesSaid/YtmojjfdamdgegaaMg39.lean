/- The text RfA. -/
import Derived.Deep.DeepCutAuto
import Derived.Test.YtmojjfdamdgegaaMg35
import Derived.Test.YtmojjfdamdgegaaMg25
import Derived.Test.YtmojjfdamdgegaaMg36
import Derived.Test.YtmojjfdamdgegaaMg38
/- Contracts of the reference functions others, without, joined of layer 16. -/
namespace Go.Proofs.Ytmojjfdamdgegaa
open Go.RowKit
set_option linter.unusedVariables false

/-- A value is a row of ints that lies in the world. -/
def rowR (l : List Int) (g : Value) (W : World) : Prop := ∃ X cx, g = .slice X l.length cx ∧ IntsR W W.heap.size X l
theorem rowR_up {l : List Int} : ∀ g W W', Below W.heap.size W W' → rowR l g W → rowR l g W' := by
  rintro g W W' hb ⟨X, cx, h1, h2⟩
  exact ⟨X, cx, h1, h2.upto hb⟩
theorem rowR_own {l : List Int} {v : Value} {W : World} {b : Nat} (h : W.ownsRow b 3 1 v l.length (l.map (Value.int .i64))) : rowR l v W := by
  obtain ⟨X, cx, h1, h2⟩ := ownsRow_ints h
  exact ⟨X, cx, h1, h2⟩
set_option maxRecDepth 100000 in
set_option maxHeartbeats 2000000 in
theorem others_any (nb : Value) (A A' : Option Addr) (c c' m : Nat) (out : List Int) (w : World) (ho : IntsR w w.heap.size A' out) (hm : m ≤ 1000000) (hn : out.length ≤ 1000000) :
    Calls Try.prog 51 #[.agg #[nb, .slice A m c], .slice A' out.length c'] w (IntsV w (notIn out m)) := by
  obtain ⟨i0, hi, hz0, hz1, hz2⟩ := info_parts info_int
  have HO := Lib.hid ho
  clear ho
  go_enter Try.func51, Try.ntmps51
  go_wp2_with fail
  go_loopg [5, 6] m (fun g s i wr => ∃ k : Nat, k + g = m ∧ i = .int .i64 k ∧ wr.ownsRow (w.heap.size + 1) 3 1 s (notIn out k).length ((notIn out k).map (Value.int .i64)) ∧ Below (w.heap.size + 1) (w.alloc (.cells #[nb, .slice A m c] 24)) wr)
  case atStart => exact ⟨0, by omega, rfl, World.ownsRow_nil _ _ _ _, Below.refl _ _⟩
  case round =>
    obtain ⟨k, hkg, rfl, hrow, hbw⟩ := hrel
    have c1 : wr.cell? ⟨w.heap.size, 1, none⟩ = some (.slice A m c) := (hbw.cell (by show w.heap.size < _; omega)).trans (by simp)
    have hzz : w.heap.size + 1 ≤ wr.heap.size := by have := hbw.size; simpa using this
    have HBW := Lib.hid hbw
    clear hbw
    cases gk with
    | zero =>
      obtain rfl : k = m := by omega
      clear hkg
      have HROW := Lib.hid hrow
      clear hrow
      go_wp2_with fail
      go_ret
      exact ⟨_, rfl, ownsRow_base HROW.out (by omega), ((Below.refl _ _).alloc (Nat.le_refl _) _).trans (HBW.out.mono (by omega))⟩
    | succ g =>
      have hk : k < m := by omega
      have HG := Lib.hid hkg
      clear hkg
      have hle := notIn_le out k
      have hcall := has_any A' c' out (k : Int) wr w.heap.size (HO.out.keep fun p hp => (HBW.out.cell (by omega)).trans (World.cell?_alloc_lt _ _ _ hp)) hn
      cases hh : hasB out (k : Int) with
      | true =>
        have HS : Hid (notIn out (k + 1) = notIn out k) := by show _ = _; rw [notIn, if_pos hh]
        rw [hh] at hcall
        have HC := Lib.hid hcall
        have HROW := Lib.hid hrow
        clear hcall hh hrow
        go_wp2_with fail
        refine HC.out.mono ?_
        rintro e w' ⟨rfl, rfl⟩
        go_wp2_with fail
        go_roundg g
        case measure => omega
        case rel => exact ⟨k + 1, by have := HG.out; omega, by go_num, by rw [HS.out]; exact HROW.out, HBW.out⟩
      | false =>
        have HS : Hid (notIn out (k + 1) = notIn out k ++ [(k : Int)]) := by show _ = _; rw [notIn, if_neg (by rw [hh]; simp)]
        rw [hh] at hcall
        have HC := Lib.hid hcall
        clear hcall hh
        go_wp2_with fail
        refine HC.out.mono ?_
        rintro e w' ⟨rfl, rfl⟩
        go_wp2_with (at_builtin; refine wpList_append_own _ rfl _ _ 25 rfl (w.heap.size + 1) 3 i0 (.int .i64 0) 1 8 Try.underlying25 hi hz0 hz1 hz2 rfl (by decide) _ _ _ rfl (hrow.alloc _) ⟨wr.heap.size, 0, none⟩ 1 1 [.int .i64 (k : Int)] rfl rfl (cell_one_new _ _ _) (by simp [Value.oneCell']) (by unfold maxLen; omega) (by omega) (by simp; omega) ?_; intro v' w2 hown' hgrow _)
        have hb2 := below_append hrow hzz hgrow
        have HOWN := Lib.hid hown'
        clear hgrow hrow hown'
        go_wp2_with fail
        go_roundg g
        case measure => omega
        case rel => exact ⟨k + 1, by have := HG.out; omega, by go_num, by rw [HS.out]; simpa using HOWN.out, HBW.out.trans hb2⟩

/-- l without k. -/
def woL (l : List Int) (k : Int) : List Int := l.filter fun y => decide (y ≠ k)
theorem woL_take (l : List Int) (x : Int) (m : Nat) (h : m < l.length) : woL (l.take (m + 1)) x = if l.getD m 0 = x then woL (l.take m) x else woL (l.take m) x ++ [l.getD m 0] := by
  unfold woL
  rw [List.take_succ_eq_append_getElem h, List.filter_append, getD_eq _ _ _ h, List.filter_cons]
  by_cases hd : l[m] = x
  · rw [if_pos hd, if_neg (by simpa using hd)]; simp
  · rw [if_neg hd, if_pos (by simpa using hd)]; rfl
set_option maxRecDepth 100000 in
set_option maxHeartbeats 2000000 in
theorem without_any (X : Option Addr) (cx : Nat) (l : List Int) (x : Int) (w : World) (hi : IntsR w w.heap.size X l) (hn : l.length ≤ 1000000) :
    Calls Try.prog 37 #[.slice X l.length cx, .int .i64 x] w (IntsV w (woL l x)) := by
  obtain ⟨i0, hi0, hz0, hz1, hz2⟩ := info_parts info_int
  have HX := Lib.hid hi
  clear hi
  go_enter Try.func37, Try.ntmps37
  go_wp2_with fail
  go_loopg [5, 6] l.length (fun g s i wr => ∃ k : Nat, k + g = l.length ∧ i = .int .i64 k ∧ wr.ownsRow w.heap.size 3 1 s (woL (l.take k) x).length ((woL (l.take k) x).map (Value.int .i64)) ∧ Below w.heap.size w wr)
  case atStart => exact ⟨0, by omega, rfl, World.ownsRow_nil _ _ _ _, Below.refl _ _⟩
  case round =>
    obtain ⟨k, hkg, rfl, hrow, hbw⟩ := hrel
    have HBW := Lib.hid hbw
    have hzz := hbw.size
    clear hbw
    cases gk with
    | zero =>
      obtain rfl : k = l.length := by omega
      clear hkg
      rw [List.take_length] at hrow
      have HROW := Lib.hid hrow
      clear hrow
      go_wp2_with fail
      go_ret
      exact ⟨_, rfl, HROW.out, HBW.out⟩
    | succ g =>
      have hk : k < l.length := by omega
      have HG := Lib.hid hkg
      clear hkg
      have hle : (woL (l.take k) x).length ≤ 1000000 := by
        have h := List.length_filter_le (fun y => decide (y ≠ x)) (l.take k)
        rw [List.length_take] at h
        unfold woL
        omega
      obtain ⟨b, off, rfl, hb, hc⟩ := HX.out (by omega)
      have ey := (HBW.out.cell (p := ⟨b, off + k, none⟩) hb).trans (hc k hk)
      have HS := Lib.hid (woL_take l x k hk)
      generalize woL (l.take k) x = fl at *
      generalize l.getD k 0 = y at *
      clear hc
      by_cases hy : y = x
      · have HST := Lib.hid (HS.out.trans (by rw [if_pos hy]))
        subst hy
        have HROW := Lib.hid hrow
        clear HS hrow
        go_wp2_with fail
        go_roundg g
        case measure => omega
        case rel => exact ⟨k + 1, by have := HG.out; omega, by go_num, by rw [HST.out]; exact HROW.out, HBW.out⟩
      · have HST := Lib.hid (HS.out.trans (by rw [if_neg hy]))
        have hy2 : (y != x) = true := by simpa using hy
        clear HS hy
        go_wp2_with (at_builtin; refine wpList_append_own _ rfl _ _ 25 rfl w.heap.size 3 i0 (.int .i64 0) 1 8 Try.underlying25 hi0 hz0 hz1 hz2 rfl (by decide) _ _ _ rfl (hrow.alloc _) ⟨wr.heap.size, 0, none⟩ 1 1 [.int .i64 y] rfl rfl (cell_one_new _ _ _) (by simp [Value.oneCell']) (by unfold maxLen; omega) (by omega) (by simp; omega) ?_; intro v' w2 hown' hgrow _)
        have hb2 := below_append hrow hzz hgrow
        have HOWN := Lib.hid hown'
        clear hgrow hrow hown'
        go_wp2_with fail
        go_roundg g
        case measure => omega
        case rel => exact ⟨k + 1, by have := HG.out; omega, by go_num, by rw [HST.out]; simpa using HOWN.out, HBW.out.trans hb2⟩
set_option maxRecDepth 100000 in
set_option maxHeartbeats 2000000 in
theorem joined16_any (nb : Int) (A X : Option Addr) (c cx : Nat) (ls : List Ln) (l : List Int) (a b : Int) (w : World) (hl : LinesR w w.heap.size A ls) (hx : IntsR w w.heap.size X l) (hm : ls.length ≤ 1000000) (hn : l.length ≤ 1000000) :
    Calls Try.prog 36 #[.agg #[.int .i64 nb, .slice A ls.length c], .slice X l.length cx, .int .i64 a, .int .i64 b] w fun e w' => e = .returned (.bool (connB nb ls (notIn l ls.length) a b)) ∧ Below w.heap.size w w' := by
  have hle := notIn_le l ls.length
  have kr := fun W hi => others_any (.int .i64 nb) A X c cx ls.length l W hi hm hn
  have kj := fun Y cy W hl hi => joined_any nb A Y c cy ls (notIn l ls.length) a b W hl hi hm (by omega)
  generalize connB nb ls (notIn l ls.length) a b = jb at *
  generalize connE nb ls (notIn l ls.length) a b = je at *
  generalize notIn l ls.length = ol at *
  have hb := (Below.refl w.heap.size w).alloc (Nat.le_refl _) (.cells #[.int .i64 nb, .slice A ls.length c] 24)
  have q0 : (w.alloc (.cells #[.int .i64 nb, .slice A ls.length c] 24)).cell? ⟨w.heap.size, 0, none⟩ = some (.int .i64 nb) := by simp
  have q1 : (w.alloc (.cells #[.int .i64 nb, .slice A ls.length c] 24)).cell? ⟨w.heap.size, 1, none⟩ = some (.slice A ls.length c) := by simp
  have hz : w.heap.size < (w.alloc (.cells #[.int .i64 nb, .slice A ls.length c] 24)).heap.size := by simp
  have HL := Lib.hid (hl.upto hb)
  have HX := Lib.hid (hx.upto hb)
  have KR := Lib.hid kr
  have KJ := Lib.hid kj
  have HB := Lib.hid hb
  clear hl hx kr kj hb
  go_enter Try.func36, Try.ntmps36
  go_wp2_with fail
  generalize w.alloc (.cells #[.int .i64 nb, .slice A ls.length c] 24) = w1 at *
  refine region_K (w0 := w1) (fun jq => match jq with | 0 => .inl (.agg #[.int .i64 nb, .slice A ls.length c]) | 1 => .inl (.agg #[.int .i64 nb, .slice A ls.length c]) | 2 => .inl (.slice X l.length cx) | 3 => .inr (0, fun g => g) | 4 => .inl (.int .i64 a) | 5 => .inl (.int .i64 b) | 6 => .inl (.tuple #[.bool jb, .int .i64 je]) | 7 => .inl (.tuple #[.bool jb, .int .i64 je]) | 8 => .inl (.bool jb) | 9 => .inl (.int .i64 je) | 10 => .inl (.bool jb) | 11 => .inl (.int .i64 je) | _ => .inl undef) (fun _ => rowR ol) (fun _ => rowR_up) (by kernel_rfl) (by kernel_rfl) ?_ ?_
  · intro iq oq ho aq W hI hdep hrest hgd
    have hc : ∀ v, aq.eval (.const v) = v := fun _ => rfl
    have hfn : ∀ f, aq.eval (.func f) = .func (.func f) #[] #[] := fun _ => rfl
    rcases iq with _ | _ | _ | _ | _ | _ | _ | _ | _ | _ | _ | _ | iq
    · injection ho with ho
      subst ho
      have r4 : aq.eval (.tmp 4) = .pointer (some ⟨w.heap.size, 0, none⟩) := hrest 4 (by kernel_rfl)
      clear hrest
      clear hdep hgd
      have x0 := (hI.cell (p := ⟨w.heap.size, 0, none⟩) hz).trans q0
      have x1 := (hI.cell (p := ⟨w.heap.size, 1, none⟩) hz).trans q1
      refine ⟨fun _ => .inl ⟨.agg #[.int .i64 nb, .slice A ls.length c], ?_, rfl⟩, fun hw => (by simp [Region.wanted] at hw)⟩
      clear hI
      generalize aq.eval = ρ at *
      simp [go_sem, r4, x0, x1]
    · injection ho with ho
      subst ho
      have r4 : aq.eval (.tmp 4) = .pointer (some ⟨w.heap.size, 0, none⟩) := hrest 4 (by kernel_rfl)
      clear hrest
      clear hdep hgd
      have x0 := (hI.cell (p := ⟨w.heap.size, 0, none⟩) hz).trans q0
      have x1 := (hI.cell (p := ⟨w.heap.size, 1, none⟩) hz).trans q1
      refine ⟨fun _ => .inl ⟨.agg #[.int .i64 nb, .slice A ls.length c], ?_, rfl⟩, fun hw => (by simp [Region.wanted] at hw)⟩
      clear hI
      generalize aq.eval = ρ at *
      simp [go_sem, r4, x0, x1]
    · injection ho with ho
      subst ho
      have r1 : aq.eval (.tmp 1) = .slice X l.length cx := hrest 1 (by kernel_rfl)
      clear hrest
      clear hdep hgd
      refine ⟨fun _ => .inl ⟨.slice X l.length cx, ?_, rfl⟩, fun hw => (by simp [Region.wanted] at hw)⟩
      clear hI
      generalize aq.eval = ρ at *
      simp [go_sem, r1]
    · injection ho with ho
      subst ho
      clear hrest
      have d1 : aq.eval (.tmp 13) = .agg #[.int .i64 nb, .slice A ls.length c] := hdep ⟨1, .data⟩ (by simp) rfl _ _ rfl rfl
      have d2 : aq.eval (.tmp 14) = .slice X l.length cx := hdep ⟨2, .data⟩ (by simp) rfl _ _ rfl rfl
      clear hdep hgd
      refine ⟨fun _ => .inr ⟨51, #[.agg #[.int .i64 nb, .slice A ls.length c], .slice X l.length cx], ?_, (KR.out W (HX.out.upto hI)).mono fun e w' ⟨v, he, ho, hb⟩ => ⟨v, he, ⟨v, rfl, rowR_own ho⟩, hb⟩⟩, fun hw => (by simp [Region.wanted] at hw)⟩
      clear hI
      generalize aq.eval = ρ at *
      simp [go_sem, d1, d2, hfn]
    · injection ho with ho
      subst ho
      have r2 : aq.eval (.tmp 2) = .int .i64 a := hrest 2 (by kernel_rfl)
      clear hrest
      clear hdep hgd
      refine ⟨fun _ => .inl ⟨.int .i64 a, ?_, rfl⟩, fun hw => (by simp [Region.wanted] at hw)⟩
      clear hI
      generalize aq.eval = ρ at *
      simp [go_sem, r2]
    · injection ho with ho
      subst ho
      have r3 : aq.eval (.tmp 3) = .int .i64 b := hrest 3 (by kernel_rfl)
      clear hrest
      clear hdep hgd
      refine ⟨fun _ => .inl ⟨.int .i64 b, ?_, rfl⟩, fun hw => (by simp [Region.wanted] at hw)⟩
      clear hI
      generalize aq.eval = ρ at *
      simp [go_sem, r3]
    · injection ho with ho
      subst ho
      clear hrest
      have d0 : aq.eval (.tmp 12) = .agg #[.int .i64 nb, .slice A ls.length c] := hdep ⟨0, .data⟩ (by simp) rfl _ _ rfl rfl
      obtain ⟨g3, d3, hR3⟩ : ∃ g, aq.eval (.tmp 15) = g ∧ (fun _ => rowR ol) 0 g W := hdep ⟨3, .data⟩ (by simp) rfl _ _ rfl rfl
      have d4 : aq.eval (.tmp 16) = .int .i64 a := hdep ⟨4, .data⟩ (by simp) rfl _ _ rfl rfl
      have d5 : aq.eval (.tmp 17) = .int .i64 b := hdep ⟨5, .data⟩ (by simp) rfl _ _ rfl rfl
      clear hdep hgd
      refine ⟨fun _ => .inr ⟨42, #[.agg #[.int .i64 nb, .slice A ls.length c], g3, .int .i64 a, .int .i64 b], ?_, (by obtain ⟨Y, cy, rfl, hi⟩ := hR3; exact (KJ.out _ _ W (HL.out.upto hI) hi).mono fun e w' h => ⟨_, h.1, rfl, h.2⟩)⟩, fun hw => (by simp [Region.wanted] at hw)⟩
      clear hI
      generalize aq.eval = ρ at *
      simp [go_sem, d0, d3, d4, d5, hfn]
    · injection ho with ho
      subst ho
      clear hrest
      have d6 : aq.eval (.tmp 18) = .tuple #[.bool jb, .int .i64 je] := hdep ⟨6, .data⟩ (by simp) rfl _ _ rfl rfl
      clear hdep hgd
      refine ⟨fun _ => .inl ⟨.tuple #[.bool jb, .int .i64 je], ?_, rfl⟩, fun hw => (by simp [Region.wanted] at hw)⟩
      clear hI
      generalize aq.eval = ρ at *
      simp [go_sem, d6]
    · injection ho with ho
      subst ho
      clear hrest
      have d7 : aq.eval (.tmp 11) = .tuple #[.bool jb, .int .i64 je] := hdep ⟨7, .data⟩ (by simp) rfl _ _ rfl rfl
      clear hdep hgd
      refine ⟨fun _ => .inl ⟨.bool jb, ?_, rfl⟩, fun hw => (by simp [Region.wanted] at hw)⟩
      clear hI
      generalize aq.eval = ρ at *
      simp [go_sem, d7]
    · injection ho with ho
      subst ho
      clear hrest
      have d7 : aq.eval (.tmp 11) = .tuple #[.bool jb, .int .i64 je] := hdep ⟨7, .data⟩ (by simp) rfl _ _ rfl rfl
      clear hdep hgd
      refine ⟨fun _ => .inl ⟨.int .i64 je, ?_, rfl⟩, fun hw => (by simp [Region.wanted] at hw)⟩
      clear hI
      generalize aq.eval = ρ at *
      simp [go_sem, d7]
    · injection ho with ho
      subst ho
      clear hrest
      have d8 : aq.eval (.tmp 19) = .bool jb := hdep ⟨8, .data⟩ (by simp) rfl _ _ rfl rfl
      clear hdep hgd
      refine ⟨fun _ => .inl ⟨.bool jb, ?_, rfl⟩, fun hw => (by simp [Region.wanted] at hw)⟩
      clear hI
      generalize aq.eval = ρ at *
      simp [go_sem, d8]
    · injection ho with ho
      subst ho
      clear hrest
      have d9 : aq.eval (.tmp 20) = .int .i64 je := hdep ⟨9, .data⟩ (by simp) rfl _ _ rfl rfl
      clear hdep hgd
      refine ⟨fun _ => .inl ⟨.int .i64 je, ?_, rfl⟩, fun hw => (by simp [Region.wanted] at hw)⟩
      clear hI
      generalize aq.eval = ρ at *
      simp [go_sem, d9]
    · simp at ho
  intro vs wq hb hF
  have hv0 : vs 0 = .agg #[.int .i64 nb, .slice A ls.length c] := hF 0 (by decide)
  have hv1 : vs 1 = .agg #[.int .i64 nb, .slice A ls.length c] := hF 1 (by decide)
  have hv2 : vs 2 = .slice X l.length cx := hF 2 (by decide)
  obtain ⟨gg3, hv3, hR3⟩ : ∃ g, vs 3 = g ∧ (fun _ => rowR ol) 0 g wq := hF 3 (by decide)
  have hv4 : vs 4 = .int .i64 a := hF 4 (by decide)
  have hv5 : vs 5 = .int .i64 b := hF 5 (by decide)
  have hv6 : vs 6 = .tuple #[.bool jb, .int .i64 je] := hF 6 (by decide)
  have hv7 : vs 7 = .tuple #[.bool jb, .int .i64 je] := hF 7 (by decide)
  have hv8 : vs 8 = .bool jb := hF 8 (by decide)
  have hv9 : vs 9 = .int .i64 je := hF 9 (by decide)
  have hv10 : vs 10 = .bool jb := hF 10 (by decide)
  have hv11 : vs 11 = .int .i64 je := hF 11 (by decide)
  clear hF
  simp only [putAll, Act.put, List.setIfInBounds_toArray, List.set_cons_zero, List.set_cons_succ, Nat.reduceAdd, hv0, hv1, hv2, hv3, hv4, hv5, hv6, hv7, hv8, hv9, hv10, hv11]
  clear hv0 hv1 hv2 hv3 hv4 hv5 hv6 hv7 hv8 hv9 hv10 hv11
  go_wp2_with fail
  go_ret
  exact ⟨rfl, HB.out.trans (hb.mono HB.out.size)⟩
end Go.Proofs.Ytmojjfdamdgegaa
