/- The walk of TreeGreedy. -/
import Derived.Test.YtmojjfdamdgegaaTreH
import Derived.Test.YtmojjfdamdgegaaGreP
import Derived.Test.YtmojjfdamdgegaaIslF
import Derived.Deep.DeepCutAuto
namespace Go.Proofs.Ytmojjfdamdgegaa
open Go.RowKit
set_option linter.unusedVariables false

theorem filter_take (l : List Int) (x : Int) (m : Nat) (h : m < l.length) : (l.take (m + 1)).filter (fun y => decide (y < x)) = if l.getD m 0 < x then (l.take m).filter (fun y => decide (y < x)) ++ [l.getD m 0] else (l.take m).filter (fun y => decide (y < x)) := by
  rw [List.take_succ_eq_append_getElem h, List.filter_append, getD_eq _ _ _ h, List.filter_cons]
  by_cases hd : l[m] < x
  · rw [if_pos hd, if_pos (decide_eq_true hd)]; rfl
  · rw [if_neg hd, if_neg (by simpa using hd)]; simp

def greF (s bl offl m c bi offi n ci k j : Nat) (lf lt lx lc : Int) (B : Nat) (done : Nat → Prop) (i : Nat) (v : Value) (W : World) : Prop :=
  match i with
  | 0 => v = .pointer (some ⟨s, 1, none⟩)
  | 1 => v = .slice (some ⟨bl, offl, none⟩) m c
  | 2 => v = .slice (some ⟨bi, offi, none⟩) n ci
  | 3 => v = .int .i64 (k : Int)
  | 4 => v = .pointer (some ⟨bi, offi + k, none⟩)
  | 5 => v = .int .i64 (j : Int)
  | 6 => v = .pointer (some ⟨bl, offl + j * 4, none⟩)
  | 7 => v = .agg #[.int .i64 lf, .int .i64 lt, .int .i64 lx, .int .i64 lc]
  | 8 => ∃ b, v = .pointer (some ⟨b, 0, none⟩) ∧ B ≤ b ∧ (∃ a1 a2 a3 a4, W.heap[b]? = some (.cells #[a1, a2, a3, a4] 44)) ∧ (done 9 → W.heap[b]? = some (.cells #[.int .i64 lf, .int .i64 lt, .int .i64 lx, .int .i64 lc] 44))
  | _ => True
theorem greF_up {s bl offl m c bi offi n ci k j : Nat} {lf lt lx lc : Int} {B : Nat} {done done' : Nat → Prop} {i : Nat} {v : Value} {W W' : World} (h : greF s bl offl m c bi offi n ci k j lf lt lx lc B done i v W) (hb : Below W.heap.size W W') (hd : done' 9 → done 9) : greF s bl offl m c bi offi n ci k j lf lt lx lc B done' i v W' := by
  unfold greF at h ⊢
  split at h
  all_goals first
    | exact h
    | (obtain ⟨b, h1, h2, ⟨a1, a2, a3, a4, h3⟩, h4⟩ := h
       have hlt : b < W.heap.size := (Array.getElem?_eq_some_iff.1 h3).1
       exact ⟨b, h1, h2, ⟨a1, a2, a3, a4, (hb.block b hlt).trans h3⟩, fun hh => (hb.block b hlt).trans (h4 (hd hh))⟩)
def grgF (nb lf lt : Int) (bl offl m c n c10 bx B : Nat) (A10 : Option Addr) (bb : Bool) (rl : List Int) (i : Nat) (v : Value) (W : World) : Prop :=
  match i with
  | 0 => v = .agg #[.int .i64 nb, .slice (some ⟨bl, offl, none⟩) m c]
  | 1 => v = .agg #[.int .i64 nb, .slice (some ⟨bl, offl, none⟩) m c]
  | 2 => v = .slice A10 n c10
  | 3 => W.ownsRow B 3 1 v rl.length (rl.map (Value.int .i64))
  | 4 => v = .pointer (some ⟨bx, 0, none⟩)
  | 5 => v = .int .i64 lf
  | 6 => v = .pointer (some ⟨bx, 1, none⟩)
  | 7 => v = .int .i64 lt
  | 8 => v = .tuple #[.bool bb, .int .i64 0]
  | 9 => v = .tuple #[.bool bb, .int .i64 0]
  | 10 => v = .bool bb
  | 11 => v = .int .i64 0
  | 12 => v = .bool bb
  | 13 => v = .int .i64 0
  | _ => True
theorem grgF_up {nb lf lt : Int} {bl offl m c n c10 bx B : Nat} {A10 : Option Addr} {bb : Bool} {rl : List Int} {i : Nat} {v : Value} {W W' : World} (hb : Below W.heap.size W W') (h : grgF nb lf lt bl offl m c n c10 bx B A10 bb rl i v W) : grgF nb lf lt bl offl m c n c10 bx B A10 bb rl i v W' := by
  unfold grgF at h ⊢
  split at h
  all_goals first
    | exact h
    | exact ownsRow_below h hb
theorem tree_len {l : List Int} (m : Nat) (h : outsB m l = true) : l.length ≤ m := by have := svc_length h; omega

set_option maxRecDepth 100000 in
set_option maxHeartbeats 8000000 in
theorem gre_walk (nb : Int) (A : Option Addr) (c : Nat) (ls : List Ln) (O : Option Addr) (co : Nat) (out : List Int) (w : World) (hl : LinesR w w.heap.size A ls) (ho : IntsR w w.heap.size O out) :
    Calls Try.prog 7 #[.agg #[.int .i64 nb, .slice A ls.length c], .slice O out.length co] w fun e w' => e = .returned (.bool true) ∧ Below w.heap.size w w' := by
  obtain ⟨i0, hi0, hz0, hz1, hz2⟩ := info_parts info_int
  have HL := Lib.hid hl
  have HO := Lib.hid ho
  clear hl ho
  have kl := fun W b hb => long_lit1 (.int .i64 nb) A ls.length c 25 W b hb O out.length co
  cases hlong : longB [out.length] ls.length with
  | true =>
    rw [hlong] at kl
    have KL := Lib.hid kl
    clear kl hlong
    have HB0 := Lib.hid (Below.refl w.heap.size w)
    go_enter Try.func7, Try.ntmps7
    go_wp2_with fail
    have hb := below_alloc2 w (.cells #[.int .i64 nb, .slice A ls.length c] 24) (.cells #[.slice O out.length co] 25)
    have q0 : ((w.alloc (.cells #[.int .i64 nb, .slice A ls.length c] 24)).alloc (.cells #[.slice O out.length co] 25)).cell? ⟨w.heap.size, 0, none⟩ = some (.int .i64 nb) := by simp
    have q1 : ((w.alloc (.cells #[.int .i64 nb, .slice A ls.length c] 24)).alloc (.cells #[.slice O out.length co] 25)).cell? ⟨w.heap.size, 1, none⟩ = some (.slice A ls.length c) := by simp
    have hz : w.heap.size < ((w.alloc (.cells #[.int .i64 nb, .slice A ls.length c] 24)).alloc (.cells #[.slice O out.length co] 25)).heap.size := by simp; omega
    have HB1 := Lib.hid (HB0.out.trans (hb.mono HB0.out.size))
    clear HB0
    replace HL := Lib.hid (HL.out.upto hb)
    replace HO := Lib.hid (HO.out.upto hb)
    clear hb
    refine (KL.out (w.alloc (.cells #[.int .i64 nb, .slice A ls.length c] 24)) _ (by simp)).mono ?_
    rintro e w2 ⟨rfl, hb⟩
    rw [← World.size_alloc (w.alloc (.cells #[.int .i64 nb, .slice A ls.length c] 24)) (.cells #[.slice O out.length co] 25)] at hb
    have HB2 := Lib.hid (HB1.out.trans (hb.mono HB1.out.size))
    clear HB1
    replace HL := Lib.hid (HL.out.upto hb)
    replace HO := Lib.hid (HO.out.upto hb)
    replace q0 := (hb.cell (p := ⟨w.heap.size, 0, none⟩) hz).trans q0
    replace q1 := (hb.cell (p := ⟨w.heap.size, 1, none⟩) hz).trans q1
    replace hz : w.heap.size < w2.heap.size := Nat.lt_of_lt_of_le hz hb.size
    clear hb
    go_wp2_with fail
    refine (awake16_any _).mono ?_
    rintro e w3 ⟨rfl, hb⟩
    have HB3 := Lib.hid (HB2.out.trans (hb.mono HB2.out.size))
    clear HB2
    replace HL := Lib.hid (HL.out.upto hb)
    replace HO := Lib.hid (HO.out.upto hb)
    replace q0 := (hb.cell (p := ⟨w.heap.size, 0, none⟩) hz).trans q0
    replace q1 := (hb.cell (p := ⟨w.heap.size, 1, none⟩) hz).trans q1
    replace hz : w.heap.size < w3.heap.size := Nat.lt_of_lt_of_le hz hb.size
    clear hb
    go_wp2_with fail
    go_ret
    exact ⟨rfl, HB3.out⟩
  | false =>
    rw [hlong] at kl
    have hb100 := longB_false hlong
    have h1 : out.length ≤ 100 := hb100.1 _ (by simp)
    have h2 : ls.length ≤ 100 := hb100.2
    have KL := Lib.hid kl
    clear kl hlong hb100
    have ko := fun W hl ho => outs_any nb A O c co ls out W hl ho (by omega) (by omega)
    by_cases he : outsE nb ls out = 0
    · have kt := fun W hl ho => tree_any nb A O c co ls out W hl ho (by omega) (by omega)
      have ki := fun W hl ho => in_any nb A O c co ls out W hl ho (by omega) (by omega)
      rw [inL, if_pos he, he] at ki
      rw [he] at ko kt
      have hsl := svcL_le out ls.length
      have htl := (tree_in he).1
      have hsv : ∀ k, k < (svcL out ls.length).length → ∃ j : Nat, (svcL out ls.length).getD k 0 = (j : Int) ∧ j < ls.length ∧ (treeL nb ls out).filter (fun x => decide (x < (j : Int))) = treeTo nb ls (svcL out ls.length) k ∧
          (hasB (treeL nb ls out) (j : Int) = !connB nb ls (svcL (treeTo nb ls (svcL out ls.length) k) ls.length) (ls.getD j (0, 0, 0, 0)).1 (ls.getD j (0, 0, 0, 0)).2.1 ∧ outsB ls.length (treeTo nb ls (svcL out ls.length) k) = true ∧ outsE nb ls (svcL (treeTo nb ls (svcL out ls.length) k) ls.length) = 0 ∧
            0 ≤ (ls.getD j (0, 0, 0, 0)).1 ∧ (ls.getD j (0, 0, 0, 0)).1 < nb ∧ 0 ≤ (ls.getD j (0, 0, 0, 0)).2.1 ∧ (ls.getD j (0, 0, 0, 0)).2.1 < nb) := fun k hk => by
        have hmm := (svc_mem (check_of_outs he).2 ((svcL out ls.length).getD k 0)).1 (by rw [getD_eq _ _ _ hk]; exact List.getElem_mem hk)
        have hj : (svcL out ls.length).getD k 0 = ((((svcL out ls.length).getD k 0).toNat : Nat) : Int) := by omega
        have h1 := tree_ahead he k hk
        have h2 := tree_has he k hk
        have hv := (valid_of_check (check_of_outs he).1).ok (((svcL out ls.length).getD k 0).toNat) (by omega)
        refine ⟨((svcL out ls.length).getD k 0).toNat, hj, by omega, by rw [← hj]; exact h1, by rw [← hj]; exact h2, tree_outs he k, rest_outsE he k, hv.1, hv.2.1, hv.2.2.1, hv.2.2.2.1⟩
      clear he
      generalize treeL nb ls out = tl at *
      generalize svcL out ls.length = sv at *
      have KO := Lib.hid ko
      have KT := Lib.hid kt
      have KI := Lib.hid ki
      have HSV := Lib.hid hsv
      clear ko kt ki hsv
      have HB0 := Lib.hid (Below.refl w.heap.size w)
      go_enter Try.func7, Try.ntmps7
      go_wp2_with fail
      have hb := below_alloc2 w (.cells #[.int .i64 nb, .slice A ls.length c] 24) (.cells #[.slice O out.length co] 25)
      have q0 : ((w.alloc (.cells #[.int .i64 nb, .slice A ls.length c] 24)).alloc (.cells #[.slice O out.length co] 25)).cell? ⟨w.heap.size, 0, none⟩ = some (.int .i64 nb) := by simp
      have q1 : ((w.alloc (.cells #[.int .i64 nb, .slice A ls.length c] 24)).alloc (.cells #[.slice O out.length co] 25)).cell? ⟨w.heap.size, 1, none⟩ = some (.slice A ls.length c) := by simp
      have hz : w.heap.size < ((w.alloc (.cells #[.int .i64 nb, .slice A ls.length c] 24)).alloc (.cells #[.slice O out.length co] 25)).heap.size := by simp; omega
      have HB1 := Lib.hid (HB0.out.trans (hb.mono HB0.out.size))
      clear HB0
      replace HL := Lib.hid (HL.out.upto hb)
      replace HO := Lib.hid (HO.out.upto hb)
      clear hb
      refine (KL.out (w.alloc (.cells #[.int .i64 nb, .slice A ls.length c] 24)) _ (by simp)).mono ?_
      rintro e w2 ⟨rfl, hb⟩
      rw [← World.size_alloc (w.alloc (.cells #[.int .i64 nb, .slice A ls.length c] 24)) (.cells #[.slice O out.length co] 25)] at hb
      have HB2 := Lib.hid (HB1.out.trans (hb.mono HB1.out.size))
      clear HB1
      replace HL := Lib.hid (HL.out.upto hb)
      replace HO := Lib.hid (HO.out.upto hb)
      replace q0 := (hb.cell (p := ⟨w.heap.size, 0, none⟩) hz).trans q0
      replace q1 := (hb.cell (p := ⟨w.heap.size, 1, none⟩) hz).trans q1
      replace hz : w.heap.size < w2.heap.size := Nat.lt_of_lt_of_le hz hb.size
      clear hb
      go_wp2_with fail
      refine (awake16_any _).mono ?_
      rintro e w3 ⟨rfl, hb⟩
      have HB3 := Lib.hid (HB2.out.trans (hb.mono HB2.out.size))
      clear HB2
      replace HL := Lib.hid (HL.out.upto hb)
      replace HO := Lib.hid (HO.out.upto hb)
      replace q0 := (hb.cell (p := ⟨w.heap.size, 0, none⟩) hz).trans q0
      replace q1 := (hb.cell (p := ⟨w.heap.size, 1, none⟩) hz).trans q1
      replace hz : w.heap.size < w3.heap.size := Nat.lt_of_lt_of_le hz hb.size
      clear hb
      go_wp2_with fail
      refine (KO.out _ HL.out HO.out).mono ?_
      rintro e w4 ⟨rfl, hb⟩
      have HB4 := Lib.hid (HB3.out.trans (hb.mono HB3.out.size))
      clear HB3
      replace HL := Lib.hid (HL.out.upto hb)
      replace HO := Lib.hid (HO.out.upto hb)
      replace q0 := (hb.cell (p := ⟨w.heap.size, 0, none⟩) hz).trans q0
      replace q1 := (hb.cell (p := ⟨w.heap.size, 1, none⟩) hz).trans q1
      replace hz : w.heap.size < w4.heap.size := Nat.lt_of_lt_of_le hz hb.size
      clear hb
      go_wp2_with fail
      refine (KT.out _ HL.out HO.out).mono ?_
      rintro e w5 ⟨v, rfl, hown, hb⟩
      obtain ⟨At, ct, rfl, hI⟩ := ownsRow_ints hown
      have HIt := Lib.hid hI
      clear hown hI
      have HB5 := Lib.hid (HB4.out.trans (hb.mono HB4.out.size))
      clear HB4
      replace HL := Lib.hid (HL.out.upto hb)
      replace HO := Lib.hid (HO.out.upto hb)
      replace q0 := (hb.cell (p := ⟨w.heap.size, 0, none⟩) hz).trans q0
      replace q1 := (hb.cell (p := ⟨w.heap.size, 1, none⟩) hz).trans q1
      replace hz : w.heap.size < w5.heap.size := Nat.lt_of_lt_of_le hz hb.size
      clear hb
      go_wp2_with fail
      refine (KI.out _ HL.out HO.out).mono ?_
      rintro e w6 ⟨v, rfl, hown, hb⟩
      obtain ⟨Ai, ci, rfl, hI⟩ := ownsRow_ints hown
      have HIi := Lib.hid hI
      clear hown hI
      have HB6 := Lib.hid (HB5.out.trans (hb.mono HB5.out.size))
      clear HB5
      replace HL := Lib.hid (HL.out.upto hb)
      replace HO := Lib.hid (HO.out.upto hb)
      replace HIt := Lib.hid (HIt.out.upto hb)
      replace q0 := (hb.cell (p := ⟨w.heap.size, 0, none⟩) hz).trans q0
      replace q1 := (hb.cell (p := ⟨w.heap.size, 1, none⟩) hz).trans q1
      replace hz : w.heap.size < w6.heap.size := Nat.lt_of_lt_of_le hz hb.size
      clear hb
      go_wp2_with fail
      go_loopg [9, 10, 11, 12, 13, 14] sv.length (fun g i s10 s11 s12 s13 s14 wr => ∃ k : Nat, k + g = sv.length ∧ i = .int .i64 k ∧ Below w6.heap.size w6 wr)
      case atStart => exact ⟨0, by omega, rfl, Below.refl _ _⟩
      case round =>
        obtain ⟨k, hkg, rfl, hbel⟩ := hrel
        have HBW := Lib.hid hbel
        clear hbel
        cases gk with
        | zero =>
          obtain rfl : k = sv.length := by omega
          clear hkg
          go_wp2_with fail
          go_ret
          exact ⟨rfl, HB6.out.trans (HBW.out.mono HB6.out.size)⟩
        | succ g =>
          have hk : k < sv.length := by omega
          have HG := Lib.hid hkg
          clear hkg
          obtain ⟨j, hj1, hj, hah, hhas⟩ := HSV.out k hk
          obtain ⟨bi, offi, rfl, hbi, hci⟩ := HIi.out (by omega)
          have ei := (HBW.out.cell (p := ⟨bi, offi + k, none⟩) hbi).trans (hci k hk)
          rw [hj1] at ei
          have i1 : ¬ (j : Int) < 0 := by omega
          replace q1 := (HBW.out.cell (p := ⟨w.heap.size, 1, none⟩) hz).trans q1
          replace q0 := (HBW.out.cell (p := ⟨w.heap.size, 0, none⟩) hz).trans q0
          have HLW := Lib.hid (HL.out.upto HBW.out)
          have HTW := Lib.hid (HIt.out.upto HBW.out)
          have hzw : w.heap.size < wr.heap.size := Nat.lt_of_lt_of_le hz HBW.out.size
          have hbiw : bi < wr.heap.size := Nat.lt_of_lt_of_le hbi HBW.out.size
          have HAH := Lib.hid hah
          have HHAS := Lib.hid hhas
          clear hci hj1 hah hhas
          go_wp2_with fail
          refine region_quiet (fun jq => match jq with | 0 => .slice (some ⟨bi, offi, none⟩) sv.length ci | 1 => .int .i64 (k : Int) | 2 => .pointer (some ⟨bi, offi + k, none⟩) | 3 => .int .i64 (j : Int) | 4 => .bool false | 5 => .bool false | 6 => .slice (some ⟨bi, offi, none⟩) sv.length ci | 7 => .int .i64 (k : Int) | 8 => .pointer (some ⟨bi, offi + k, none⟩) | 9 => .int .i64 (j : Int) | 10 => .pointer (some ⟨w.heap.size, 1, none⟩) | 11 => .slice A ls.length c | 12 => .int .i64 (ls.length : Int) | 13 => .bool false | 14 => .bool false | _ => undef) (by kernel_rfl) (by kernel_rfl) ?_ ?_
          · intro i o ho a hdep hrest hgd
            have r2 : a.eval (.tmp 2) = .pointer (some ⟨w.heap.size, 0, none⟩) := hrest 2 (apart_of (by kernel_rfl))
            have r7 : a.eval (.tmp 7) = .slice (some ⟨bi, offi, none⟩) sv.length ci := hrest 7 (apart_of (by kernel_rfl))
            have r9 : a.eval (.tmp 9) = .int .i64 (k : Int) := hrest 9 (apart_of (by kernel_rfl))
            have hc : ∀ v, a.eval (.const v) = v := fun _ => rfl
            clear hrest
            rcases i with _ | _ | _ | _ | _ | _ | _ | _ | _ | _ | _ | _ | _ | _ | _ | i
            · injection ho with ho
              subst ho
              clear hdep hgd
              refine ⟨fun _ => ?_, fun hw => by simp [Region.wanted] at hw⟩
              generalize a.eval = ρ at *
              simp [go_sem, r7]
            · injection ho with ho
              subst ho
              clear hdep hgd
              refine ⟨fun _ => ?_, fun hw => by simp [Region.wanted] at hw⟩
              generalize a.eval = ρ at *
              simp [go_sem, r9]
            · injection ho with ho
              subst ho
              have e0 : a.eval (.tmp 54) = .slice (some ⟨bi, offi, none⟩) sv.length ci := hdep ⟨0, .data⟩ (by simp) rfl _ _ rfl rfl
              have e1 : a.eval (.tmp 55) = .int .i64 (k : Int) := hdep ⟨1, .data⟩ (by simp) rfl _ _ rfl rfl
              clear hdep hgd
              refine ⟨fun _ => ?_, fun hw => by simp [Region.wanted] at hw⟩
              generalize a.eval = ρ at *
              simp [go_sem, e0, e1, hk]
            · injection ho with ho
              subst ho
              have e2 : a.eval (.tmp 56) = .pointer (some ⟨bi, offi + k, none⟩) := hdep ⟨2, .data⟩ (by simp) rfl _ _ rfl rfl
              clear hdep hgd
              refine ⟨fun _ => ?_, fun hw => by simp [Region.wanted] at hw⟩
              generalize a.eval = ρ at *
              simp [go_sem, e2, ei]
            · injection ho with ho
              subst ho
              have e3 : a.eval (.tmp 57) = .int .i64 (j : Int) := hdep ⟨3, .data⟩ (by simp) rfl _ _ rfl rfl
              clear hdep hgd
              refine ⟨fun _ => ?_, fun hw => by simp [Region.wanted] at hw⟩
              generalize a.eval = ρ at *
              simp [go_sem, e3, i1, hc]
            · injection ho with ho
              subst ho
              have e4 : a.eval (.tmp 58) = .bool false := hdep ⟨4, .data⟩ (by simp) rfl _ _ rfl rfl
              clear hdep hgd
              refine ⟨fun _ => ?_, fun hw => by simp [Region.wanted] at hw⟩
              generalize a.eval = ρ at *
              simp [go_sem, e4]
            · injection ho with ho
              subst ho
              have h8 : a.tmps.getD 59 undef = .bool false := hdep ⟨5, .guard⟩ (by simp) rfl _ _ rfl rfl
              have hwd := hgd 5 false rfl _ _ rfl rfl false h8
              clear hdep hgd
              refine ⟨fun _ => ?_, fun hw => (by rw [hwd] at hw; cases hw)⟩
              clear h8 hwd
              generalize a.eval = ρ at *
              simp [go_sem, r7]
            · injection ho with ho
              subst ho
              have h8 : a.tmps.getD 59 undef = .bool false := hdep ⟨5, .guard⟩ (by simp) rfl _ _ rfl rfl
              have hwd := hgd 5 false rfl _ _ rfl rfl false h8
              clear hdep hgd
              refine ⟨fun _ => ?_, fun hw => (by rw [hwd] at hw; cases hw)⟩
              clear h8 hwd
              generalize a.eval = ρ at *
              simp [go_sem, r9]
            · injection ho with ho
              subst ho
              have e6 : a.eval (.tmp 60) = .slice (some ⟨bi, offi, none⟩) sv.length ci := hdep ⟨6, .data⟩ (by simp) rfl _ _ rfl rfl
              have e7 : a.eval (.tmp 61) = .int .i64 (k : Int) := hdep ⟨7, .data⟩ (by simp) rfl _ _ rfl rfl
              have h8 : a.tmps.getD 59 undef = .bool false := hdep ⟨5, .guard⟩ (by simp) rfl _ _ rfl rfl
              have hwd := hgd 5 false rfl _ _ rfl rfl false h8
              clear hdep hgd
              refine ⟨fun _ => ?_, fun hw => (by rw [hwd] at hw; cases hw)⟩
              clear h8 hwd
              generalize a.eval = ρ at *
              simp [go_sem, e6, e7, hk]
            · injection ho with ho
              subst ho
              have e8 : a.eval (.tmp 62) = .pointer (some ⟨bi, offi + k, none⟩) := hdep ⟨8, .data⟩ (by simp) rfl _ _ rfl rfl
              have h8 : a.tmps.getD 59 undef = .bool false := hdep ⟨5, .guard⟩ (by simp) rfl _ _ rfl rfl
              have hwd := hgd 5 false rfl _ _ rfl rfl false h8
              clear hdep hgd
              refine ⟨fun _ => ?_, fun hw => (by rw [hwd] at hw; cases hw)⟩
              clear h8 hwd
              generalize a.eval = ρ at *
              simp [go_sem, e8, ei]
            · injection ho with ho
              subst ho
              have h8 : a.tmps.getD 59 undef = .bool false := hdep ⟨5, .guard⟩ (by simp) rfl _ _ rfl rfl
              have hwd := hgd 5 false rfl _ _ rfl rfl false h8
              clear hdep hgd
              refine ⟨fun _ => ?_, fun hw => (by rw [hwd] at hw; cases hw)⟩
              clear h8 hwd
              generalize a.eval = ρ at *
              simp [go_sem, r2]
            · injection ho with ho
              subst ho
              have e10 : a.eval (.tmp 64) = .pointer (some ⟨w.heap.size, 1, none⟩) := hdep ⟨10, .data⟩ (by simp) rfl _ _ rfl rfl
              have h8 : a.tmps.getD 59 undef = .bool false := hdep ⟨5, .guard⟩ (by simp) rfl _ _ rfl rfl
              have hwd := hgd 5 false rfl _ _ rfl rfl false h8
              clear hdep hgd
              refine ⟨fun _ => ?_, fun hw => (by rw [hwd] at hw; cases hw)⟩
              clear h8 hwd
              generalize a.eval = ρ at *
              simp [go_sem, e10, q1]
            · injection ho with ho
              subst ho
              have e11 : a.eval (.tmp 65) = .slice A ls.length c := hdep ⟨11, .data⟩ (by simp) rfl _ _ rfl rfl
              have h8 : a.tmps.getD 59 undef = .bool false := hdep ⟨5, .guard⟩ (by simp) rfl _ _ rfl rfl
              have hwd := hgd 5 false rfl _ _ rfl rfl false h8
              clear hdep hgd
              refine ⟨fun _ => ?_, fun hw => (by rw [hwd] at hw; cases hw)⟩
              clear h8 hwd
              generalize a.eval = ρ at *
              simp [go_sem, e11]
            · injection ho with ho
              subst ho
              have e9 : a.eval (.tmp 63) = .int .i64 (j : Int) := hdep ⟨9, .data⟩ (by simp) rfl _ _ rfl rfl
              have e12 : a.eval (.tmp 66) = .int .i64 (ls.length : Int) := hdep ⟨12, .data⟩ (by simp) rfl _ _ rfl rfl
              have h8 : a.tmps.getD 59 undef = .bool false := hdep ⟨5, .guard⟩ (by simp) rfl _ _ rfl rfl
              have hwd := hgd 5 false rfl _ _ rfl rfl false h8
              clear hdep hgd
              refine ⟨fun _ => ?_, fun hw => (by rw [hwd] at hw; cases hw)⟩
              clear h8 hwd
              generalize a.eval = ρ at *
              simp [go_sem, e9, e12, hj]
            · injection ho with ho
              subst ho
              have e5 : a.eval (.tmp 59) = .bool false := hdep ⟨5, .data⟩ (by simp) rfl _ _ rfl rfl
              have e13 : a.eval (.tmp 67) = .bool false := hdep ⟨13, .data⟩ (by simp) rfl _ _ rfl rfl
              clear hdep hgd
              refine ⟨fun _ => ?_, fun hw => by simp [Region.wanted] at hw⟩
              generalize a.eval = ρ at *
              simp [go_sem, e5, e13, hc]
            · simp at ho
          simp only [putAll, Act.put, List.setIfInBounds_toArray, List.set_cons_zero, List.set_cons_succ, Nat.reduceAdd]
          have ei' : wr.drew.cell? ⟨bi, offi + k, none⟩ = some (.int .i64 (j : Int)) := ei
          have q1' : wr.drew.cell? ⟨w.heap.size, 1, none⟩ = some (.slice A ls.length c) := q1
          have q0' : wr.drew.cell? ⟨w.heap.size, 0, none⟩ = some (.int .i64 nb) := q0
          have hzw' : w.heap.size < wr.drew.heap.size := hzw
          have hbiw' : bi < wr.drew.heap.size := hbiw
          have HB1 := Lib.hid (show Below w6.heap.size w6 wr.drew from HBW.out.drew)
          have HL1 := Lib.hid (show LinesR wr.drew wr.drew.heap.size A ls from HLW.out)
          have HT1 := Lib.hid (show IntsR wr.drew wr.drew.heap.size At tl from HTW.out)
          clear ei q1 q0 HBW HLW HTW hzw hbiw
          generalize wr.drew = wd at *
          go_wp2_with fail
          go_loopg [10, 11] tl.length (fun g s10 i wx => ∃ m : Nat, m + g = tl.length ∧ i = .int .i64 m ∧ wx.ownsRow wd.heap.size 3 1 s10 ((tl.take m).filter (fun x => decide (x < (j : Int)))).length (((tl.take m).filter (fun x => decide (x < (j : Int)))).map (Value.int .i64)) ∧ Below wd.heap.size wd wx)
          case atStart => exact ⟨0, by omega, rfl, World.ownsRow_nil _ _ _ _, Below.refl _ _⟩
          case round =>
            obtain ⟨m, hmg, rfl, hrow, hbx⟩ := hrel
            have HBX := Lib.hid hbx
            have hsx := hbx.size
            clear hbx
            cases gk with
            | zero =>
              obtain rfl : m = tl.length := by omega
              clear hmg
              rw [List.take_length, HAH.out] at hrow
              obtain ⟨A10, c10, rfl, hI10⟩ := ownsRow_ints hrow
              have HI10 := Lib.hid hI10
              have p0 := (HBX.out.cell (p := ⟨w.heap.size, 0, none⟩) hzw').trans q0'
              have p1 := (HBX.out.cell (p := ⟨w.heap.size, 1, none⟩) hzw').trans q1'
              have ei := (HBX.out.cell (p := ⟨bi, offi + k, none⟩) hbiw').trans ei'
              have hzx : w.heap.size < wr.heap.size := Nat.lt_of_lt_of_le hzw' hsx
              have hbx : bi < wr.heap.size := Nat.lt_of_lt_of_le hbiw' hsx
              have HLX := Lib.hid (HL1.out.upto HBX.out)
              have HTX := Lib.hid (HT1.out.upto HBX.out)
              have HBY := Lib.hid (HB1.out.trans (HBX.out.mono HB1.out.size))
              obtain ⟨hhs, hob, hrs, a1, a2, a3, a4⟩ := HHAS.out
              have hahl := (tree_len ls.length hob)
              have krs := fun X cx W hi => rest_any (.int .i64 nb) A X c cx ls.length (treeTo nb ls sv k) W hi (by omega) (by omega)
              rw [← svcL_eq hob] at krs
              have hrl := svcL_le (treeTo nb ls sv k) ls.length
              have kcn := fun X cx W hl hi => conn_any nb A X c cx ls (svcL (treeTo nb ls sv k) ls.length) (ls.getD j (0, 0, 0, 0)).1 (ls.getD j (0, 0, 0, 0)).2.1 W hl hi (by omega) (by omega)
              rw [connE, if_pos hrs, if_neg (by omega)] at kcn
              obtain ⟨bl, offl, rfl, hbl, hcl⟩ := HLX.out (by omega)
              obtain ⟨f0, f1, f2, f3⟩ := hcl j hj
              have hblx : bl < wr.heap.size := hbl
              generalize connB nb ls (svcL (treeTo nb ls sv k) ls.length) (ls.getD j (0, 0, 0, 0)).1 (ls.getD j (0, 0, 0, 0)).2.1 = bb at *
              generalize svcL (treeTo nb ls sv k) ls.length = rl at *
              generalize treeTo nb ls sv k = ah at *
              generalize (ls.getD j (0, 0, 0, 0)).1 = lf at *
              generalize (ls.getD j (0, 0, 0, 0)).2.1 = lt at *
              generalize (ls.getD j (0, 0, 0, 0)).2.2.1 = lx at *
              generalize (ls.getD j (0, 0, 0, 0)).2.2.2 = lc at *
              have KRS := Lib.hid krs
              have KCN := Lib.hid kcn
              have HHS := Lib.hid hhs
              clear hrow hI10 krs kcn hhs hob hrs hcl hbl HHAS HAH HB1 HBX HL1 HT1 q0' q1' ei' hzw' hbiw'
              go_wp2_with fail
              refine region_eachX (w0 := wr) (greF w.heap.size bl offl ls.length c bi offi sv.length ci k j lf lt lx lc wr.heap.size) (fun _ W => Below wr.heap.size wr W) (by kernel_rfl) (by kernel_rfl) (Below.refl _ _).drew ?_ ?_
              · intro i o ho done a W hni hcl hI hdep hrest
                have r2 : a.eval (.tmp 2) = .pointer (some ⟨w.heap.size, 0, none⟩) := hrest 2 (apart_of (by kernel_rfl))
                have r7 : a.eval (.tmp 7) = .slice (some ⟨bi, offi, none⟩) sv.length ci := hrest 7 (apart_of (by kernel_rfl))
                have r9 : a.eval (.tmp 9) = .int .i64 (k : Int) := hrest 9 (apart_of (by kernel_rfl))
                clear hrest
                have hkeep : i ≠ 9 → ∀ (W' : World), Below W.heap.size W W' → ∀ (jj : Nat) (u : Value), done jj → greF w.heap.size bl offl ls.length c bi offi sv.length ci k j lf lt lx lc wr.heap.size done jj u W → greF w.heap.size bl offl ls.length c bi offi sv.length ci k j lf lt lx lc wr.heap.size (more done i) jj u W' := fun hi W' hb jj u _ h => greF_up h hb (fun hd => hd.resolve_left fun e => hi e.symm)
                rcases i with _ | _ | _ | _ | _ | _ | _ | _ | _ | _ | i
                · injection ho with ho
                  subst ho
                  refine ⟨fun _ K Q hK => wp_of_value (v := .pointer (some ⟨w.heap.size, 1, none⟩)) ?_ (hK _ _ hI rfl (fun jj u hd _ h => hkeep (by omega) _ (Below.refl _ _) jj u hd h)), fun hw => by simp [Region.wanted] at hw⟩
                  clear hK hkeep hdep hI hcl
                  generalize a.eval = ρ at *
                  simp [go_sem, r2]
                · injection ho with ho
                  subst ho
                  have e0 : a.eval (.tmp 91) = .pointer (some ⟨w.heap.size, 1, none⟩) := ((hdep ⟨0, .data⟩ (by simp) rfl).2 _ rfl).1 _ rfl
                  have x1 := (hI.cell (p := ⟨w.heap.size, 1, none⟩) hzx).trans p1
                  refine ⟨fun _ K Q hK => wp_of_value (v := .slice (some ⟨bl, offl, none⟩) ls.length c) ?_ (hK _ _ hI rfl (fun jj u hd _ h => hkeep (by omega) _ (Below.refl _ _) jj u hd h)), fun hw => by simp [Region.wanted] at hw⟩
                  clear hK hkeep hdep hI hcl
                  generalize a.eval = ρ at *
                  simp [go_sem, e0, x1]
                · injection ho with ho
                  subst ho
                  refine ⟨fun _ K Q hK => wp_of_value (v := .slice (some ⟨bi, offi, none⟩) sv.length ci) ?_ (hK _ _ hI rfl (fun jj u hd _ h => hkeep (by omega) _ (Below.refl _ _) jj u hd h)), fun hw => by simp [Region.wanted] at hw⟩
                  clear hK hkeep hdep hI hcl
                  generalize a.eval = ρ at *
                  simp [go_sem, r7]
                · injection ho with ho
                  subst ho
                  refine ⟨fun _ K Q hK => wp_of_value (v := .int .i64 (k : Int)) ?_ (hK _ _ hI rfl (fun jj u hd _ h => hkeep (by omega) _ (Below.refl _ _) jj u hd h)), fun hw => by simp [Region.wanted] at hw⟩
                  clear hK hkeep hdep hI hcl
                  generalize a.eval = ρ at *
                  simp [go_sem, r9]
                · injection ho with ho
                  subst ho
                  have e2 : a.eval (.tmp 93) = .slice (some ⟨bi, offi, none⟩) sv.length ci := ((hdep ⟨2, .data⟩ (by simp) rfl).2 _ rfl).1 _ rfl
                  have e3 : a.eval (.tmp 94) = .int .i64 (k : Int) := ((hdep ⟨3, .data⟩ (by simp) rfl).2 _ rfl).1 _ rfl
                  refine ⟨fun _ K Q hK => wp_of_value (v := .pointer (some ⟨bi, offi + k, none⟩)) ?_ (hK _ _ hI rfl (fun jj u hd _ h => hkeep (by omega) _ (Below.refl _ _) jj u hd h)), fun hw => by simp [Region.wanted] at hw⟩
                  clear hK hkeep hdep hI hcl
                  generalize a.eval = ρ at *
                  simp [go_sem, e2, e3, hk]
                · injection ho with ho
                  subst ho
                  have e4 : a.eval (.tmp 95) = .pointer (some ⟨bi, offi + k, none⟩) := ((hdep ⟨4, .data⟩ (by simp) rfl).2 _ rfl).1 _ rfl
                  have x5 := (hI.cell (p := ⟨bi, offi + k, none⟩) hbx).trans ei
                  refine ⟨fun _ K Q hK => wp_of_value (v := .int .i64 (j : Int)) ?_ (hK _ _ hI rfl (fun jj u hd _ h => hkeep (by omega) _ (Below.refl _ _) jj u hd h)), fun hw => by simp [Region.wanted] at hw⟩
                  clear hK hkeep hdep hI hcl
                  generalize a.eval = ρ at *
                  simp [go_sem, e4, x5]
                · injection ho with ho
                  subst ho
                  have e1 : a.eval (.tmp 92) = .slice (some ⟨bl, offl, none⟩) ls.length c := ((hdep ⟨1, .data⟩ (by simp) rfl).2 _ rfl).1 _ rfl
                  have e5 : a.eval (.tmp 96) = .int .i64 (j : Int) := ((hdep ⟨5, .data⟩ (by simp) rfl).2 _ rfl).1 _ rfl
                  refine ⟨fun _ K Q hK => wp_of_value (v := .pointer (some ⟨bl, offl + j * 4, none⟩)) ?_ (hK _ _ hI rfl (fun jj u hd _ h => hkeep (by omega) _ (Below.refl _ _) jj u hd h)), fun hw => by simp [Region.wanted] at hw⟩
                  clear hK hkeep hdep hI hcl
                  generalize a.eval = ρ at *
                  simp [go_sem, e1, e5, hj]
                · injection ho with ho
                  subst ho
                  have e6 : a.eval (.tmp 97) = .pointer (some ⟨bl, offl + j * 4, none⟩) := ((hdep ⟨6, .data⟩ (by simp) rfl).2 _ rfl).1 _ rfl
                  have y0 := (hI.cell (p := ⟨bl, offl + j * 4, none⟩) hblx).trans f0
                  have y1 := (hI.cell (p := ⟨bl, offl + j * 4 + 1, none⟩) hblx).trans f1
                  have y2 := (hI.cell (p := ⟨bl, offl + j * 4 + 2, none⟩) hblx).trans f2
                  have y3 := (hI.cell (p := ⟨bl, offl + j * 4 + 3, none⟩) hblx).trans f3
                  refine ⟨fun _ K Q hK => wp_of_value (v := .agg #[.int .i64 lf, .int .i64 lt, .int .i64 lx, .int .i64 lc]) ?_ (hK _ _ hI rfl (fun jj u hd _ h => hkeep (by omega) _ (Below.refl _ _) jj u hd h)), fun hw => by simp [Region.wanted] at hw⟩
                  clear hK hkeep hdep hI hcl
                  generalize a.eval = ρ at *
                  simp [go_sem, e6, y0, y1, y2, y3]
                · injection ho with ho
                  subst ho
                  have n9 : ¬ done 9 := fun hd => hni (hcl 9 _ rfl hd ⟨8, .data⟩ (by simp) rfl)
                  have hb : Below W.heap.size W (W.alloc (.cells #[.int .i64 0, .int .i64 0, .int .i64 0, .int .i64 0] 44)) := (Below.refl _ _).alloc (Nat.le_refl _) _
                  refine ⟨fun _ K Q hK => wp_of_value (v := .pointer (some ⟨W.heap.size, 0, none⟩)) (w' := W.alloc (.cells #[.int .i64 0, .int .i64 0, .int .i64 0, .int .i64 0] 44)) ?_ (hK _ _ (hI.trans (hb.mono hI.size)) ⟨_, rfl, hI.size, ⟨_, _, _, _, heap_alloc_new _ _⟩, fun h => absurd h (by rintro (h | h); cases h; exact n9 h)⟩ (fun jj u hd _ h => hkeep (by omega) _ hb jj u hd h)), fun hw => by simp [Region.wanted] at hw⟩
                  clear hK hkeep hdep hI hcl
                  generalize a.eval = ρ at *
                  simp [go_sem]
                · injection ho with ho
                  subst ho
                  have e8 : greF w.heap.size bl offl ls.length c bi offi sv.length ci k j lf lt lx lc wr.heap.size done 8 (a.eval (.tmp 12)) W := ((hdep ⟨8, .data⟩ (by simp) rfl).2 _ rfl).1 _ rfl
                  obtain ⟨b, hb12, hBb, ⟨a1, a2, a3, a4, hblk⟩, _⟩ := e8
                  have e7 : a.eval (.tmp 98) = .agg #[.int .i64 lf, .int .i64 lt, .int .i64 lx, .int .i64 lc] := ((hdep ⟨7, .data⟩ (by simp) rfl).2 _ rfl).1 _ rfl
                  have k0 : W.cell? ⟨b, 0, none⟩ = some a1 := by simp [World.cell?, hblk]
                  have z0 : W.frozen? ⟨b, 0, none⟩ = false := by simp [World.frozen?, hblk]
                  have k1 : W.cell? ⟨b, 1, none⟩ = some a2 := by simp [World.cell?, hblk]
                  have z1 : W.frozen? ⟨b, 1, none⟩ = false := by simp [World.frozen?, hblk]
                  have k2 : W.cell? ⟨b, 2, none⟩ = some a3 := by simp [World.cell?, hblk]
                  have z2 : W.frozen? ⟨b, 2, none⟩ = false := by simp [World.frozen?, hblk]
                  have k3 : W.cell? ⟨b, 3, none⟩ = some a4 := by simp [World.cell?, hblk]
                  have z3 : W.frozen? ⟨b, 3, none⟩ = false := by simp [World.frozen?, hblk]
                  have hblk2 : ((((W.setCell ⟨b, 0, none⟩ (.int .i64 lf)).setCell ⟨b, 1, none⟩ (.int .i64 lt)).setCell ⟨b, 2, none⟩ (.int .i64 lx)).setCell ⟨b, 3, none⟩ (.int .i64 lc)).heap[b]? = some (.cells #[.int .i64 lf, .int .i64 lt, .int .i64 lx, .int .i64 lc] 44) := by simp [World.setCell, Array.getElem?_modify, hblk]
                  refine ⟨fun _ K Q hK => wp_of_skip (w' := ((((W.setCell ⟨b, 0, none⟩ (.int .i64 lf)).setCell ⟨b, 1, none⟩ (.int .i64 lt)).setCell ⟨b, 2, none⟩ (.int .i64 lx)).setCell ⟨b, 3, none⟩ (.int .i64 lc))) ?_ (hK _ _ ?_ trivial ?_), fun hw => by simp [Region.wanted] at hw⟩
                  · clear hK hkeep hdep hI hcl hblk2
                    generalize a.eval = ρ at *
                    simp [go_sem, e7, hb12, k0, k1, k2, k3, z0, z1, z2, z3]
                  · exact (((hI.setCell (p := ⟨b, 0, none⟩) hBb _).setCell (p := ⟨b, 1, none⟩) hBb _).setCell (p := ⟨b, 2, none⟩) hBb _).setCell (p := ⟨b, 3, none⟩) hBb _
                  · intro jj v hd hv h
                    rcases jj with _ | _ | _ | _ | _ | _ | _ | _ | _ | jj
                    · exact h
                    · exact h
                    · exact h
                    · exact h
                    · exact h
                    · exact h
                    · exact h
                    · exact h
                    · have hv' : v = .pointer (some ⟨b, 0, none⟩) := (hv _ _ rfl rfl).trans hb12
                      exact ⟨b, hv', hBb, ⟨_, _, _, _, hblk2⟩, fun _ => hblk2⟩
                    · trivial
                · simp at ho
              · intro done vs wz hall hI hF
                obtain ⟨bx, hbx12, hBx, _, hblk⟩ := hF 8 (by decide)
                have hbk := hblk (hall 9 (by decide))
                have g0 : wz.cell? ⟨bx, 0, none⟩ = some (.int .i64 lf) := by simp [World.cell?, hbk]
                have g1 : wz.cell? ⟨bx, 1, none⟩ = some (.int .i64 lt) := by simp [World.cell?, hbk]
                have hzb : bx < wz.heap.size := (Array.getElem?_eq_some_iff.1 hbk).1
                have hHI := HI10.out
                replace p0 := (hI.cell (p := ⟨w.heap.size, 0, none⟩) hzx).trans p0
                replace p1 := (hI.cell (p := ⟨w.heap.size, 1, none⟩) hzx).trans p1
                have ej := (hI.cell (p := ⟨bi, offi + k, none⟩) hbx).trans ei
                have hzz : w.heap.size < wz.heap.size := Nat.lt_of_lt_of_le hzx hI.size
                have hbz : bi < wz.heap.size := Nat.lt_of_lt_of_le hbx hI.size
                have HLZ := Lib.hid (HLX.out.upto hI)
                have HTZ := Lib.hid (HTX.out.upto hI)
                have HIZ := Lib.hid (HI10.out.upto hI)
                have HBZ := Lib.hid (HBY.out.trans (hI.mono HBY.out.size))
                clear hF hblk hbk hI hHI HLX HTX HBY HI10 ei f0 f1 f2 f3 hBx hall
                simp only [putAll, Act.put, List.setIfInBounds_toArray, List.set_cons_zero, List.set_cons_succ, Nat.reduceAdd]
                rw [hbx12]
                go_wp2_with fail
                refine region_eachW (w0 := wz) (grgF nb lf lt bl offl ls.length c ah.length c10 bx wz.heap.size A10 bb rl) (fun W => Below wz.heap.size wz W) (by kernel_rfl) (by kernel_rfl) (Below.refl _ _).drew ?_ ?_
                · intro i o ho a W hI hdep hrest
                  have r2 : a.eval (.tmp 2) = .pointer (some ⟨w.heap.size, 0, none⟩) := hrest 2 (apart_of (by kernel_rfl))
                  have r10 : a.eval (.tmp 10) = .slice A10 ah.length c10 := hrest 10 (apart_of (by kernel_rfl))
                  have r12 : a.eval (.tmp 12) = .pointer (some ⟨bx, 0, none⟩) := hrest 12 (apart_of (by kernel_rfl))
                  have hfn : ∀ f, a.eval (.func f) = .func (.func f) #[] #[] := fun _ => rfl
                  clear hrest
                  rcases i with _ | _ | _ | _ | _ | _ | _ | _ | _ | _ | _ | _ | _ | _ | i
                  · injection ho with ho
                    subst ho
                    have x0 := (hI.cell (p := ⟨w.heap.size, 0, none⟩) hzz).trans p0
                    have x1 := (hI.cell (p := ⟨w.heap.size, 1, none⟩) hzz).trans p1
                    refine ⟨fun _ K Q hK => wp_of_value (v := .agg #[.int .i64 nb, .slice (some ⟨bl, offl, none⟩) ls.length c]) ?_ (hK _ _ hI rfl fun _ _ h => h), fun hw => by simp [Region.wanted] at hw⟩
                    clear hK hdep hI
                    generalize a.eval = ρ at *
                    simp [go_sem, r2, x0, x1]
                  · injection ho with ho
                    subst ho
                    have x0 := (hI.cell (p := ⟨w.heap.size, 0, none⟩) hzz).trans p0
                    have x1 := (hI.cell (p := ⟨w.heap.size, 1, none⟩) hzz).trans p1
                    refine ⟨fun _ K Q hK => wp_of_value (v := .agg #[.int .i64 nb, .slice (some ⟨bl, offl, none⟩) ls.length c]) ?_ (hK _ _ hI rfl fun _ _ h => h), fun hw => by simp [Region.wanted] at hw⟩
                    clear hK hdep hI
                    generalize a.eval = ρ at *
                    simp [go_sem, r2, x0, x1]
                  · injection ho with ho
                    subst ho
                    refine ⟨fun _ K Q hK => wp_of_value (v := .slice A10 ah.length c10) ?_ (hK _ _ hI rfl fun _ _ h => h), fun hw => by simp [Region.wanted] at hw⟩
                    clear hK hdep hI
                    generalize a.eval = ρ at *
                    simp [go_sem, r10]
                  · injection ho with ho
                    subst ho
                    have e1 : a.eval (.tmp 101) = .agg #[.int .i64 nb, .slice (some ⟨bl, offl, none⟩) ls.length c] := (hdep ⟨1, .data⟩ (by simp) rfl _ rfl).1 _ rfl
                    have e2 : a.eval (.tmp 102) = .slice A10 ah.length c10 := (hdep ⟨2, .data⟩ (by simp) rfl _ rfl).1 _ rfl
                    refine ⟨fun _ K Q hK => wp_of_enter (w' := W) (f := 27) (args := #[.agg #[.int .i64 nb, .slice (some ⟨bl, offl, none⟩) ls.length c], .slice A10 ah.length c10]) (R := fun v w' => w'.ownsRow W.heap.size 3 1 v rl.length (rl.map (Value.int .i64)) ∧ Below W.heap.size W w') ?_ ?_ ?_, fun hw => by simp [Region.wanted] at hw⟩
                    · clear hK hdep hI
                      generalize a.eval = ρ at *
                      simp [go_sem, e1, e2, hfn]
                    · exact (KRS.out _ _ W (HIZ.out.upto hI)).mono fun e w' ⟨v, he, ho, hb⟩ => ⟨v, he, ho, hb⟩
                    · rintro v w' ⟨ho, hb⟩
                      exact hK v w' (hI.trans (hb.mono hI.size)) (ownsRow_base ho hI.size) fun jj u h => grgF_up hb h
                  · injection ho with ho
                    subst ho
                    refine ⟨fun _ K Q hK => wp_of_value (v := .pointer (some ⟨bx, 0, none⟩)) ?_ (hK _ _ hI rfl fun _ _ h => h), fun hw => by simp [Region.wanted] at hw⟩
                    clear hK hdep hI
                    generalize a.eval = ρ at *
                    simp [go_sem, r12]
                  · injection ho with ho
                    subst ho
                    have e4 : a.eval (.tmp 104) = .pointer (some ⟨bx, 0, none⟩) := (hdep ⟨4, .data⟩ (by simp) rfl _ rfl).1 _ rfl
                    have x2 := (hI.cell (p := ⟨bx, 0, none⟩) hzb).trans g0
                    refine ⟨fun _ K Q hK => wp_of_value (v := .int .i64 lf) ?_ (hK _ _ hI rfl fun _ _ h => h), fun hw => by simp [Region.wanted] at hw⟩
                    clear hK hdep hI
                    generalize a.eval = ρ at *
                    simp [go_sem, e4, x2]
                  · injection ho with ho
                    subst ho
                    refine ⟨fun _ K Q hK => wp_of_value (v := .pointer (some ⟨bx, 1, none⟩)) ?_ (hK _ _ hI rfl fun _ _ h => h), fun hw => by simp [Region.wanted] at hw⟩
                    clear hK hdep hI
                    generalize a.eval = ρ at *
                    simp [go_sem, r12]
                  · injection ho with ho
                    subst ho
                    have e6 : a.eval (.tmp 106) = .pointer (some ⟨bx, 1, none⟩) := (hdep ⟨6, .data⟩ (by simp) rfl _ rfl).1 _ rfl
                    have x3 := (hI.cell (p := ⟨bx, 1, none⟩) hzb).trans g1
                    refine ⟨fun _ K Q hK => wp_of_value (v := .int .i64 lt) ?_ (hK _ _ hI rfl fun _ _ h => h), fun hw => by simp [Region.wanted] at hw⟩
                    clear hK hdep hI
                    generalize a.eval = ρ at *
                    simp [go_sem, e6, x3]
                  · injection ho with ho
                    subst ho
                    have e0 : a.eval (.tmp 100) = .agg #[.int .i64 nb, .slice (some ⟨bl, offl, none⟩) ls.length c] := (hdep ⟨0, .data⟩ (by simp) rfl _ rfl).1 _ rfl
                    have e5 : a.eval (.tmp 105) = .int .i64 lf := (hdep ⟨5, .data⟩ (by simp) rfl _ rfl).1 _ rfl
                    have e7 : a.eval (.tmp 107) = .int .i64 lt := (hdep ⟨7, .data⟩ (by simp) rfl _ rfl).1 _ rfl
                    have e3 : W.ownsRow wz.heap.size 3 1 (a.eval (.tmp 103)) rl.length (rl.map (Value.int .i64)) := (hdep ⟨3, .data⟩ (by simp) rfl _ rfl).1 _ rfl
                    obtain ⟨u, hu⟩ : ∃ u, a.eval (.tmp 103) = u := ⟨_, rfl⟩
                    rw [hu] at e3
                    obtain ⟨Ar, cr, rfl, hIr⟩ := ownsRow_ints e3
                    refine ⟨fun _ K Q hK => wp_of_enter (w' := W) (f := 31) (args := #[.agg #[.int .i64 nb, .slice (some ⟨bl, offl, none⟩) ls.length c], .slice Ar rl.length cr, .int .i64 lf, .int .i64 lt]) (R := fun v w' => v = .tuple #[.bool bb, .int .i64 0] ∧ Below W.heap.size W w') ?_ ?_ ?_, fun hw => by simp [Region.wanted] at hw⟩
                    · clear hK hdep hI hIr e3
                      generalize a.eval = ρ at *
                      simp [go_sem, e0, e5, e7, hu, hfn]
                    · exact (KCN.out _ _ W (HLZ.out.upto hI) hIr).mono fun e w' ⟨he, hb⟩ => ⟨_, he, rfl, hb⟩
                    · rintro v w' ⟨rfl, hb⟩
                      exact hK _ w' (hI.trans (hb.mono hI.size)) rfl fun jj u h => grgF_up hb h
                  · injection ho with ho
                    subst ho
                    have e8 : a.eval (.tmp 108) = .tuple #[.bool bb, .int .i64 0] := (hdep ⟨8, .data⟩ (by simp) rfl _ rfl).1 _ rfl
                    refine ⟨fun _ K Q hK => wp_of_value (v := .tuple #[.bool bb, .int .i64 0]) ?_ (hK _ _ hI rfl fun _ _ h => h), fun hw => by simp [Region.wanted] at hw⟩
                    clear hK hdep hI
                    generalize a.eval = ρ at *
                    simp [go_sem, e8]
                  · injection ho with ho
                    subst ho
                    have e9 : a.eval (.tmp 99) = .tuple #[.bool bb, .int .i64 0] := (hdep ⟨9, .data⟩ (by simp) rfl _ rfl).1 _ rfl
                    refine ⟨fun _ K Q hK => wp_of_value (v := .bool bb) ?_ (hK _ _ hI rfl fun _ _ h => h), fun hw => by simp [Region.wanted] at hw⟩
                    clear hK hdep hI
                    generalize a.eval = ρ at *
                    simp [go_sem, e9]
                  · injection ho with ho
                    subst ho
                    have e9 : a.eval (.tmp 99) = .tuple #[.bool bb, .int .i64 0] := (hdep ⟨9, .data⟩ (by simp) rfl _ rfl).1 _ rfl
                    refine ⟨fun _ K Q hK => wp_of_value (v := .int .i64 0) ?_ (hK _ _ hI rfl fun _ _ h => h), fun hw => by simp [Region.wanted] at hw⟩
                    clear hK hdep hI
                    generalize a.eval = ρ at *
                    simp [go_sem, e9]
                  · injection ho with ho
                    subst ho
                    have e10 : a.eval (.tmp 109) = .bool bb := (hdep ⟨10, .data⟩ (by simp) rfl _ rfl).1 _ rfl
                    refine ⟨fun _ K Q hK => wp_of_value (v := .bool bb) ?_ (hK _ _ hI rfl fun _ _ h => h), fun hw => by simp [Region.wanted] at hw⟩
                    clear hK hdep hI
                    generalize a.eval = ρ at *
                    simp [go_sem, e10]
                  · injection ho with ho
                    subst ho
                    have e11 : a.eval (.tmp 110) = .int .i64 0 := (hdep ⟨11, .data⟩ (by simp) rfl _ rfl).1 _ rfl
                    refine ⟨fun _ K Q hK => wp_of_value (v := .int .i64 0) ?_ (hK _ _ hI rfl fun _ _ h => h), fun hw => by simp [Region.wanted] at hw⟩
                    clear hK hdep hI
                    generalize a.eval = ρ at *
                    simp [go_sem, e11]
                  · simp at ho
                · intro us wq hI hF
                  have h12 : us 12 = .bool bb := hF 12 (by decide)
                  have h13 : us 13 = .int .i64 0 := hF 13 (by decide)
                  have em := (hI.cell (p := ⟨bi, offi + k, none⟩) hbz).trans ej
                  have kh := has16_any At ct tl (j : Int) wq wq.heap.size (HTZ.out.upto hI) (by omega)
                  rw [HHS.out] at kh
                  have KH := Lib.hid kh
                  have HBQ := Lib.hid (HBZ.out.trans (hI.mono HBZ.out.size))
                  clear hF hI ej kh p0 p1 g0 g1 HLZ HIZ HBZ HTZ
                  simp only [putAll, Act.put, List.setIfInBounds_toArray, List.set_cons_zero, List.set_cons_succ, Nat.reduceAdd]
                  rw [h12, h13]
                  go_wp2_with fail
                  refine KH.out.mono ?_
                  rintro e wv ⟨rfl, rfl⟩
                  cases bb <;> (
                    go_wp2_with fail
                    go_roundg g
                    case measure => omega
                    case rel => exact ⟨k + 1, by have := HG.out; omega, by go_num, HBQ.out⟩)
            | succ g2 =>
              have hm : m < tl.length := by omega
              have HG2 := Lib.hid hmg
              clear hmg
              obtain ⟨bt, offt, rfl, hbt, hct⟩ := HT1.out (by omega)
              have et := (HBX.out.cell (p := ⟨bt, offt + m, none⟩) hbt).trans (hct m hm)
              have ei2 := (HBX.out.cell (p := ⟨bi, offi + k, none⟩) hbiw').trans ei'
              have HTK := Lib.hid (filter_take tl (j : Int) m hm)
              have hfl : ((tl.take m).filter (fun x => decide (x < (j : Int)))).length ≤ 1000000 := by
                have h := List.length_filter_le (fun x => decide (x < (j : Int))) (tl.take m)
                rw [List.length_take] at h
                omega
              generalize (tl.take m).filter (fun x => decide (x < (j : Int))) = fl at *
              generalize tl.getD m 0 = y at *
              have ei := ei2
              clear hct ei2
              by_cases hyj : y < (j : Int)
              · have HST := Lib.hid (HTK.out.trans (by rw [if_pos hyj]))
                clear HTK
                go_wp2_with fail
                refine region_quiet (fun jq => match jq with | 0 => .slice (some ⟨bt, offt, none⟩) tl.length ct | 1 => .int .i64 (m : Int) | 2 => .pointer (some ⟨bt, offt + m, none⟩) | 3 => .int .i64 y | 4 => .slice (some ⟨bi, offi, none⟩) sv.length ci | 5 => .int .i64 (k : Int) | 6 => .pointer (some ⟨bi, offi + k, none⟩) | 7 => .int .i64 (j : Int) | 8 => .bool true | _ => undef) (by kernel_rfl) (by kernel_rfl) ?_ ?_
                · intro i o ho a hdep hrest hgd
                  have r5 : a.eval (.tmp 5) = .slice (some ⟨bt, offt, none⟩) tl.length ct := hrest 5 (apart_of (by kernel_rfl))
                  have r7 : a.eval (.tmp 7) = .slice (some ⟨bi, offi, none⟩) sv.length ci := hrest 7 (apart_of (by kernel_rfl))
                  have r9 : a.eval (.tmp 9) = .int .i64 (k : Int) := hrest 9 (apart_of (by kernel_rfl))
                  have r11 : a.eval (.tmp 11) = .int .i64 (m : Int) := hrest 11 (apart_of (by kernel_rfl))
                  have hc : ∀ v, a.eval (.const v) = v := fun _ => rfl
                  clear hrest
                  rcases i with _ | _ | _ | _ | _ | _ | _ | _ | _ | i
                  · injection ho with ho
                    subst ho
                    clear hdep hgd
                    refine ⟨fun _ => ?_, fun hw => by simp [Region.wanted] at hw⟩
                    generalize a.eval = ρ at *
                    simp [go_sem, r5]
                  · injection ho with ho
                    subst ho
                    clear hdep hgd
                    refine ⟨fun _ => ?_, fun hw => by simp [Region.wanted] at hw⟩
                    generalize a.eval = ρ at *
                    simp [go_sem, r11]
                  · injection ho with ho
                    subst ho
                    have e0 : a.eval (.tmp 75) = .slice (some ⟨bt, offt, none⟩) tl.length ct := hdep ⟨0, .data⟩ (by simp) rfl _ _ rfl rfl
                    have e1 : a.eval (.tmp 76) = .int .i64 (m : Int) := hdep ⟨1, .data⟩ (by simp) rfl _ _ rfl rfl
                    clear hdep hgd
                    refine ⟨fun _ => ?_, fun hw => by simp [Region.wanted] at hw⟩
                    generalize a.eval = ρ at *
                    simp [go_sem, e0, e1, hm]
                  · injection ho with ho
                    subst ho
                    have e2 : a.eval (.tmp 77) = .pointer (some ⟨bt, offt + m, none⟩) := hdep ⟨2, .data⟩ (by simp) rfl _ _ rfl rfl
                    clear hdep hgd
                    refine ⟨fun _ => ?_, fun hw => by simp [Region.wanted] at hw⟩
                    generalize a.eval = ρ at *
                    simp [go_sem, e2, et]
                  · injection ho with ho
                    subst ho
                    clear hdep hgd
                    refine ⟨fun _ => ?_, fun hw => by simp [Region.wanted] at hw⟩
                    generalize a.eval = ρ at *
                    simp [go_sem, r7]
                  · injection ho with ho
                    subst ho
                    clear hdep hgd
                    refine ⟨fun _ => ?_, fun hw => by simp [Region.wanted] at hw⟩
                    generalize a.eval = ρ at *
                    simp [go_sem, r9]
                  · injection ho with ho
                    subst ho
                    have e4 : a.eval (.tmp 79) = .slice (some ⟨bi, offi, none⟩) sv.length ci := hdep ⟨4, .data⟩ (by simp) rfl _ _ rfl rfl
                    have e5 : a.eval (.tmp 80) = .int .i64 (k : Int) := hdep ⟨5, .data⟩ (by simp) rfl _ _ rfl rfl
                    clear hdep hgd
                    refine ⟨fun _ => ?_, fun hw => by simp [Region.wanted] at hw⟩
                    generalize a.eval = ρ at *
                    simp [go_sem, e4, e5, hk]
                  · injection ho with ho
                    subst ho
                    have e6 : a.eval (.tmp 81) = .pointer (some ⟨bi, offi + k, none⟩) := hdep ⟨6, .data⟩ (by simp) rfl _ _ rfl rfl
                    clear hdep hgd
                    refine ⟨fun _ => ?_, fun hw => by simp [Region.wanted] at hw⟩
                    generalize a.eval = ρ at *
                    simp [go_sem, e6, ei]
                  · injection ho with ho
                    subst ho
                    have e3 : a.eval (.tmp 78) = .int .i64 y := hdep ⟨3, .data⟩ (by simp) rfl _ _ rfl rfl
                    have e7 : a.eval (.tmp 82) = .int .i64 (j : Int) := hdep ⟨7, .data⟩ (by simp) rfl _ _ rfl rfl
                    clear hdep hgd
                    refine ⟨fun _ => ?_, fun hw => by simp [Region.wanted] at hw⟩
                    generalize a.eval = ρ at *
                    simp [go_sem, e3, e7, hyj]
                  · simp at ho
                simp only [putAll, Act.put, List.setIfInBounds_toArray, List.set_cons_zero, List.set_cons_succ, Nat.reduceAdd]
                have et' : wr.drew.cell? ⟨bt, offt + m, none⟩ = some (.int .i64 y) := et
                have hrow1 : wr.drew.ownsRow wd.heap.size 3 1 u10 fl.length (fl.map (Value.int .i64)) := hrow
                have HBD := Lib.hid (show Below wd.heap.size wd wr.drew from HBX.out.drew)
                clear et ei hrow HBX
                generalize wr.drew = we at *
                have hsz := HBD.out.size
                go_wp2_with (at_builtin; refine wpList_append_own _ rfl _ _ 25 rfl wd.heap.size 3 i0 (.int .i64 0) 1 8 Try.underlying25 hi0 hz0 hz1 hz2 rfl (by decide) _ _ _ rfl (hrow1.alloc _) ⟨we.heap.size, 0, none⟩ 1 1 [.int .i64 y] rfl rfl (cell_one_new _ _ _) (by simp [Value.oneCell']) (by unfold maxLen; omega) (by omega) (by simp; omega) ?_; intro v' w9 hown' hgrow _)
                have hb2 := below_append hrow1 hsz hgrow
                have HOWN := Lib.hid hown'
                clear hgrow hrow1 hown'
                go_wp2_with fail
                go_roundg g2
                case measure => omega
                case rel => exact ⟨m + 1, by have := HG2.out; omega, by go_num, by rw [HST.out]; simpa using HOWN.out, HBD.out.trans hb2⟩
              · have HST := Lib.hid (HTK.out.trans (by rw [if_neg hyj]))
                have HROW := Lib.hid hrow
                clear HTK hrow
                go_wp2_with fail
                refine region_quiet (fun jq => match jq with | 0 => .slice (some ⟨bt, offt, none⟩) tl.length ct | 1 => .int .i64 (m : Int) | 2 => .pointer (some ⟨bt, offt + m, none⟩) | 3 => .int .i64 y | 4 => .slice (some ⟨bi, offi, none⟩) sv.length ci | 5 => .int .i64 (k : Int) | 6 => .pointer (some ⟨bi, offi + k, none⟩) | 7 => .int .i64 (j : Int) | 8 => .bool false | _ => undef) (by kernel_rfl) (by kernel_rfl) ?_ ?_
                · intro i o ho a hdep hrest hgd
                  have r5 : a.eval (.tmp 5) = .slice (some ⟨bt, offt, none⟩) tl.length ct := hrest 5 (apart_of (by kernel_rfl))
                  have r7 : a.eval (.tmp 7) = .slice (some ⟨bi, offi, none⟩) sv.length ci := hrest 7 (apart_of (by kernel_rfl))
                  have r9 : a.eval (.tmp 9) = .int .i64 (k : Int) := hrest 9 (apart_of (by kernel_rfl))
                  have r11 : a.eval (.tmp 11) = .int .i64 (m : Int) := hrest 11 (apart_of (by kernel_rfl))
                  have hc : ∀ v, a.eval (.const v) = v := fun _ => rfl
                  clear hrest
                  rcases i with _ | _ | _ | _ | _ | _ | _ | _ | _ | i
                  · injection ho with ho
                    subst ho
                    clear hdep hgd
                    refine ⟨fun _ => ?_, fun hw => by simp [Region.wanted] at hw⟩
                    generalize a.eval = ρ at *
                    simp [go_sem, r5]
                  · injection ho with ho
                    subst ho
                    clear hdep hgd
                    refine ⟨fun _ => ?_, fun hw => by simp [Region.wanted] at hw⟩
                    generalize a.eval = ρ at *
                    simp [go_sem, r11]
                  · injection ho with ho
                    subst ho
                    have e0 : a.eval (.tmp 75) = .slice (some ⟨bt, offt, none⟩) tl.length ct := hdep ⟨0, .data⟩ (by simp) rfl _ _ rfl rfl
                    have e1 : a.eval (.tmp 76) = .int .i64 (m : Int) := hdep ⟨1, .data⟩ (by simp) rfl _ _ rfl rfl
                    clear hdep hgd
                    refine ⟨fun _ => ?_, fun hw => by simp [Region.wanted] at hw⟩
                    generalize a.eval = ρ at *
                    simp [go_sem, e0, e1, hm]
                  · injection ho with ho
                    subst ho
                    have e2 : a.eval (.tmp 77) = .pointer (some ⟨bt, offt + m, none⟩) := hdep ⟨2, .data⟩ (by simp) rfl _ _ rfl rfl
                    clear hdep hgd
                    refine ⟨fun _ => ?_, fun hw => by simp [Region.wanted] at hw⟩
                    generalize a.eval = ρ at *
                    simp [go_sem, e2, et]
                  · injection ho with ho
                    subst ho
                    clear hdep hgd
                    refine ⟨fun _ => ?_, fun hw => by simp [Region.wanted] at hw⟩
                    generalize a.eval = ρ at *
                    simp [go_sem, r7]
                  · injection ho with ho
                    subst ho
                    clear hdep hgd
                    refine ⟨fun _ => ?_, fun hw => by simp [Region.wanted] at hw⟩
                    generalize a.eval = ρ at *
                    simp [go_sem, r9]
                  · injection ho with ho
                    subst ho
                    have e4 : a.eval (.tmp 79) = .slice (some ⟨bi, offi, none⟩) sv.length ci := hdep ⟨4, .data⟩ (by simp) rfl _ _ rfl rfl
                    have e5 : a.eval (.tmp 80) = .int .i64 (k : Int) := hdep ⟨5, .data⟩ (by simp) rfl _ _ rfl rfl
                    clear hdep hgd
                    refine ⟨fun _ => ?_, fun hw => by simp [Region.wanted] at hw⟩
                    generalize a.eval = ρ at *
                    simp [go_sem, e4, e5, hk]
                  · injection ho with ho
                    subst ho
                    have e6 : a.eval (.tmp 81) = .pointer (some ⟨bi, offi + k, none⟩) := hdep ⟨6, .data⟩ (by simp) rfl _ _ rfl rfl
                    clear hdep hgd
                    refine ⟨fun _ => ?_, fun hw => by simp [Region.wanted] at hw⟩
                    generalize a.eval = ρ at *
                    simp [go_sem, e6, ei]
                  · injection ho with ho
                    subst ho
                    have e3 : a.eval (.tmp 78) = .int .i64 y := hdep ⟨3, .data⟩ (by simp) rfl _ _ rfl rfl
                    have e7 : a.eval (.tmp 82) = .int .i64 (j : Int) := hdep ⟨7, .data⟩ (by simp) rfl _ _ rfl rfl
                    clear hdep hgd
                    refine ⟨fun _ => ?_, fun hw => by simp [Region.wanted] at hw⟩
                    generalize a.eval = ρ at *
                    simp [go_sem, e3, e7, hyj]
                  · simp at ho
                simp only [putAll, Act.put, List.setIfInBounds_toArray, List.set_cons_zero, List.set_cons_succ, Nat.reduceAdd]
                go_wp2_with fail
                go_roundg g2
                case measure => omega
                case rel => exact ⟨m + 1, by have := HG2.out; omega, by go_num, by rw [HST.out]; exact HROW.out, HBX.out.drew⟩
    · have b1 : (outsE nb ls out != 0) = true := by rw [bne_iff_ne]; exact he
      generalize outsE nb ls out = er at *
      have KO := Lib.hid ko
      clear ko he
      have HB0 := Lib.hid (Below.refl w.heap.size w)
      go_enter Try.func7, Try.ntmps7
      go_wp2_with fail
      have hb := below_alloc2 w (.cells #[.int .i64 nb, .slice A ls.length c] 24) (.cells #[.slice O out.length co] 25)
      have q0 : ((w.alloc (.cells #[.int .i64 nb, .slice A ls.length c] 24)).alloc (.cells #[.slice O out.length co] 25)).cell? ⟨w.heap.size, 0, none⟩ = some (.int .i64 nb) := by simp
      have q1 : ((w.alloc (.cells #[.int .i64 nb, .slice A ls.length c] 24)).alloc (.cells #[.slice O out.length co] 25)).cell? ⟨w.heap.size, 1, none⟩ = some (.slice A ls.length c) := by simp
      have hz : w.heap.size < ((w.alloc (.cells #[.int .i64 nb, .slice A ls.length c] 24)).alloc (.cells #[.slice O out.length co] 25)).heap.size := by simp; omega
      have HB1 := Lib.hid (HB0.out.trans (hb.mono HB0.out.size))
      clear HB0
      replace HL := Lib.hid (HL.out.upto hb)
      replace HO := Lib.hid (HO.out.upto hb)
      clear hb
      refine (KL.out (w.alloc (.cells #[.int .i64 nb, .slice A ls.length c] 24)) _ (by simp)).mono ?_
      rintro e w2 ⟨rfl, hb⟩
      rw [← World.size_alloc (w.alloc (.cells #[.int .i64 nb, .slice A ls.length c] 24)) (.cells #[.slice O out.length co] 25)] at hb
      have HB2 := Lib.hid (HB1.out.trans (hb.mono HB1.out.size))
      clear HB1
      replace HL := Lib.hid (HL.out.upto hb)
      replace HO := Lib.hid (HO.out.upto hb)
      replace q0 := (hb.cell (p := ⟨w.heap.size, 0, none⟩) hz).trans q0
      replace q1 := (hb.cell (p := ⟨w.heap.size, 1, none⟩) hz).trans q1
      replace hz : w.heap.size < w2.heap.size := Nat.lt_of_lt_of_le hz hb.size
      clear hb
      go_wp2_with fail
      refine (awake16_any _).mono ?_
      rintro e w3 ⟨rfl, hb⟩
      have HB3 := Lib.hid (HB2.out.trans (hb.mono HB2.out.size))
      clear HB2
      replace HL := Lib.hid (HL.out.upto hb)
      replace HO := Lib.hid (HO.out.upto hb)
      replace q0 := (hb.cell (p := ⟨w.heap.size, 0, none⟩) hz).trans q0
      replace q1 := (hb.cell (p := ⟨w.heap.size, 1, none⟩) hz).trans q1
      replace hz : w.heap.size < w3.heap.size := Nat.lt_of_lt_of_le hz hb.size
      clear hb
      go_wp2_with fail
      refine (KO.out _ HL.out HO.out).mono ?_
      rintro e w4 ⟨rfl, hb⟩
      have HB4 := Lib.hid (HB3.out.trans (hb.mono HB3.out.size))
      clear HB3
      replace HL := Lib.hid (HL.out.upto hb)
      replace HO := Lib.hid (HO.out.upto hb)
      replace q0 := (hb.cell (p := ⟨w.heap.size, 0, none⟩) hz).trans q0
      replace q1 := (hb.cell (p := ⟨w.heap.size, 1, none⟩) hz).trans q1
      replace hz : w.heap.size < w4.heap.size := Nat.lt_of_lt_of_le hz hb.size
      clear hb
      go_wp2_with fail
      refine (awake16_any _).mono ?_
      rintro e w5 ⟨rfl, hb⟩
      have HB5 := Lib.hid (HB4.out.trans (hb.mono HB4.out.size))
      clear HB4
      replace HL := Lib.hid (HL.out.upto hb)
      replace HO := Lib.hid (HO.out.upto hb)
      replace q0 := (hb.cell (p := ⟨w.heap.size, 0, none⟩) hz).trans q0
      replace q1 := (hb.cell (p := ⟨w.heap.size, 1, none⟩) hz).trans q1
      replace hz : w.heap.size < w5.heap.size := Nat.lt_of_lt_of_le hz hb.size
      clear hb
      go_wp2_with fail
      go_ret
      exact ⟨rfl, HB5.out⟩
end Go.Proofs.Ytmojjfdamdgegaa
