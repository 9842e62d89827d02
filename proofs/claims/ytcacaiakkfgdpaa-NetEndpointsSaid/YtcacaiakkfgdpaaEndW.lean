/- The walk of NetEndpoints. -/
import Derived.Test.YtcacaiakkfgdpaaAwkN
import Derived.Test.YtcacaiakkfgdpaaEndP
import Derived.Test.YtcacaiakkfgdpaaIslN
import Derived.Test.YtcacaiakkfgdpaaAnyG
import Derived.IntWalk
namespace Go.Proofs.Ytcacaiakkfgdpaa
open Go.RowKit
set_option linter.unusedVariables false

theorem rowI_made (w : World) (t : TypeId) (n : Nat) : RowI t (w.alloc (.cells (madeCells #[.int .i64 0] n) t)) w.heap.size (cntL' n []) := by
  unfold RowI
  rw [heap_made]
  have : (cntL' n []).map (Value.int .i64) = List.replicate n (Value.int .i64 0) := by
    refine List.ext_getElem (by simp [cntL']) fun i h1 h2 => ?_
    simp [cntL']
  rw [this]
theorem RowI.frozen {t : TypeId} {w : World} {g : Nat} {p : List Int} (h : RowI t w g p) (i : Nat) : w.frozen? ⟨g, i, none⟩ = false := by
  unfold RowI at h
  simp [World.frozen?, h]
theorem RowI.set_ {t : TypeId} {w : World} {g : Nat} {p : List Int} (h : RowI t w g p) (i : Nat) (x : Int) : RowI t (w.setCell ⟨g, i, none⟩ (.int .i64 x)) g (p.set i x) := by
  unfold RowI at h ⊢
  simp [World.setCell, Array.getElem?_modify, h, List.map_set]
theorem allAt_le (ls : List Ln) (sv : List Int) (n : Nat) : (allAt ls sv n).length ≤ n * sv.length := by
  induction n with
  | zero => simp [allAt]
  | succ n ih =>
    rw [allAt, List.length_append, Nat.succ_mul]
    have := atF_le ls (n : Int) sv
    omega
theorem allAt_succ (ls : List Ln) (sv : List Int) (b : Nat) : allAt ls sv (b + 1) = allAt ls sv b ++ atF ls (b : Int) sv := rfl
theorem cnt_le (l : List Int) (x : Int) : List.count x l ≤ l.length := List.count_le_length
theorem end_rel {cur wr : World} {l L : List Int} {m j : Nat} {z : Int} {g2 : Nat} {s8 i : Value} (k G gl : Nat) (h1 : k + 1 + g2 = l.length) (h2 : i = .int .i64 ((k + 1 : Nat) : Int)) (h3 : s8 = .int .i64 ((L.length + (k + 1) : Nat) : Int))
    (hsn : (cntL' m (L ++ l.take k)).set j (z + 1) = cntL' m (L ++ l.take (k + 1))) (hset : ∀ z : Int, RowI 3 (wr.setCell ⟨G, j, none⟩ (.int .i64 z)) G ((cntL' m (L ++ l.take k)).set j z)) (hb : Below G cur wr) (hsz : G < wr.heap.size) (hg : ¬ gl = G)
    (hcl : 0 < l.length → ∀ j, j < l.length → wr.cell? ⟨gl, j, none⟩ = some (.int .i64 (l.getD j 0))) {nq : Nat} :
    ∃ k : Nat, k + g2 = l.length ∧ i = .int .i64 k ∧ s8 = .int .i64 ((L.length + k : Nat)) ∧ RowI 3 ((wr.setCell ⟨G, j, none⟩ (.int .i64 (z + 1))).drewN nq) G (cntL' m (L ++ l.take k)) ∧ Below G cur ((wr.setCell ⟨G, j, none⟩ (.int .i64 (z + 1))).drewN nq) ∧ G < ((wr.setCell ⟨G, j, none⟩ (.int .i64 (z + 1))).drewN nq).heap.size ∧ (0 < l.length → ∀ i, i < l.length → ((wr.setCell ⟨G, j, none⟩ (.int .i64 (z + 1))).drewN nq).cell? ⟨gl, i, none⟩ = some (.int .i64 (l.getD i 0))) := by
  refine ⟨k + 1, h1, h2, h3, ?_, below_drewN (hb.setCell (p := ⟨G, j, none⟩) (Nat.le_refl _) _) _, ?_, fun h i hi => ?_⟩
  · rw [← hsn]; exact hset (z + 1)
  · show G < (wr.setCell _ _).heap.size
    simpa using hsz
  · show (wr.setCell _ _).cell? _ = _
    rw [World.cell?_setCell_other _ _ _ _ (by intro e; injection e with e1; exact hg e1.symm)]
    exact hcl h i hi

set_option maxRecDepth 100000 in
set_option maxHeartbeats 8000000 in
theorem end_walk (nb : Int) (A : Option Addr) (c : Nat) (ls : List Ln) (O : Option Addr) (co : Nat) (out : List Int) (w : World) (hl : LinesR w w.heap.size A ls) (ho : IntsR w w.heap.size O out) :
    Calls Try.prog 6 #[.agg #[.int .i64 nb, .slice A ls.length c], .slice O out.length co] w fun e w' => e = .returned (.bool true) ∧ Below w.heap.size w w' := by
  have HL := Lib.hid hl
  have HO := Lib.hid ho
  clear hl ho
  have kl := fun W b hb => long_lit1 (.int .i64 nb) A ls.length c 25 W b hb O out.length co
  cases hlong : longB [out.length] ls.length with
  | true =>
    rw [hlong] at kl
    have KL := Lib.hid kl
    clear kl hlong
    have HB0 := Lib.hid (Below.refl w.heap.size w)
    go_enter Try.func6, Try.ntmps6
    go_wp2_with fail
    have hb := below_alloc2 w (.cells #[.int .i64 nb, .slice A ls.length c] 24) (.cells #[.slice O out.length co] 25)
    have q0 : ((w.alloc (.cells #[.int .i64 nb, .slice A ls.length c] 24)).alloc (.cells #[.slice O out.length co] 25)).cell? ⟨w.heap.size, 0, none⟩ = some (.int .i64 nb) := by simp
    have q1 : ((w.alloc (.cells #[.int .i64 nb, .slice A ls.length c] 24)).alloc (.cells #[.slice O out.length co] 25)).cell? ⟨w.heap.size, 1, none⟩ = some (.slice A ls.length c) := by simp
    have hz : w.heap.size < ((w.alloc (.cells #[.int .i64 nb, .slice A ls.length c] 24)).alloc (.cells #[.slice O out.length co] 25)).heap.size := by simp; omega
    have HB1 := Lib.hid (HB0.out.trans (hb.mono HB0.out.size))
    clear HB0
    replace HL := Lib.hid (HL.out.upto hb)
    replace HO := Lib.hid (HO.out.upto hb)
    clear hb
    refine (KL.out (w.alloc (.cells #[.int .i64 nb, .slice A ls.length c] 24)) _ (by simp)).mono ?_
    rintro e w2 ⟨rfl, hb⟩
    rw [← World.size_alloc (w.alloc (.cells #[.int .i64 nb, .slice A ls.length c] 24)) (.cells #[.slice O out.length co] 25)] at hb
    have HB2 := Lib.hid (HB1.out.trans (hb.mono HB1.out.size))
    clear HB1
    replace HL := Lib.hid (HL.out.upto hb)
    replace HO := Lib.hid (HO.out.upto hb)
    replace q0 := (hb.cell (p := ⟨w.heap.size, 0, none⟩) hz).trans q0
    replace q1 := (hb.cell (p := ⟨w.heap.size, 1, none⟩) hz).trans q1
    replace hz : w.heap.size < w2.heap.size := Nat.lt_of_lt_of_le hz hb.size
    clear hb
    go_wp2_with fail
    refine (awake14_any _).mono ?_
    rintro e w3 ⟨rfl, hb⟩
    have HB3 := Lib.hid (HB2.out.trans (hb.mono HB2.out.size))
    clear HB2
    replace HL := Lib.hid (HL.out.upto hb)
    replace HO := Lib.hid (HO.out.upto hb)
    replace q0 := (hb.cell (p := ⟨w.heap.size, 0, none⟩) hz).trans q0
    replace q1 := (hb.cell (p := ⟨w.heap.size, 1, none⟩) hz).trans q1
    replace hz : w.heap.size < w3.heap.size := Nat.lt_of_lt_of_le hz hb.size
    clear hb
    go_wp2_with fail
    go_ret
    exact ⟨rfl, HB3.out⟩
  | false =>
    rw [hlong] at kl
    have hb100 := longB_false hlong
    have h1 : out.length ≤ 100 := hb100.1 _ (by simp)
    have h2 : ls.length ≤ 100 := hb100.2
    have KL := Lib.hid kl
    clear kl hlong hb100
    have ko := fun W hl ho => outs_any nb A O c co ls out W hl ho (by omega) (by omega)
    by_cases he : outsE nb ls out = 0
    · have hob := (check_of_outs he).2
      have hv := valid_of_check (check_of_outs he).1
      have ki := fun W hl ho => in_any nb A O c co ls out W hl ho (by omega) (by omega)
      have hle := svcL_le out ls.length
      rw [inL, if_pos he, he] at ki
      rw [he] at ko
      have hlo := hv.lo
      have hhi := hv.hi
      have hall := And.intro (all_length he) (all_count he)
      have hsv : ∀ k, k < (svcL out ls.length).length → ∃ j : Nat, (svcL out ls.length).getD k 0 = (j : Int) ∧ j < ls.length := fun k hk => by
        have hm := (svc_mem hob ((svcL out ls.length).getD k 0)).1 (by rw [getD_eq _ _ _ hk]; exact List.getElem_mem hk)
        exact ⟨((svcL out ls.length).getD k 0).toNat, by omega, by omega⟩
      have hat : ∀ (bus : Int) k, k < (atF ls bus (svcL out ls.length)).length → (∃ j : Nat, (atF ls bus (svcL out ls.length)).getD k 0 = (j : Int) ∧ j < ls.length) ∧ (0 < k → (atF ls bus (svcL out ls.length)).getD (k - 1) 0 < (atF ls bus (svcL out ls.length)).getD k 0) := fun bus k hk => by
        have hm := (svc_mem hob ((atF ls bus (svcL out ls.length)).getD k 0)).1 (atF_mem (by rw [getD_eq _ _ _ hk]; exact List.getElem_mem hk))
        refine ⟨⟨((atF ls bus (svcL out ls.length)).getD k 0).toNat, by omega, by omega⟩, fun h0 => ?_⟩
        rw [getD_eq _ _ _ hk, getD_eq _ _ _ (by omega)]
        exact List.pairwise_iff_getElem.1 (atF_sorted (svc_sorted hob)) (k - 1) k (by omega) hk (by omega)
      obtain ⟨n, rfl⟩ := Int.eq_ofNat_of_zero_le (show 0 ≤ nb by omega)
      rw [Int.toNat_natCast] at hall
      have kat : ∀ b : Nat, b < n → ∀ W, LinesR W W.heap.size A ls → IntsR W W.heap.size O out → Calls Try.prog 22 #[.agg #[.int .i64 (n : Int), .slice A ls.length c], .slice O out.length co, .int .i64 (b : Int)] W (IntsE W (atF ls (b : Int) (svcL out ls.length)) 0) := fun b hb W hl ho => by
        have hbus : busB (n : Int) (b : Int) = true := by simp [busB]; omega
        exact at_ok n A O c co ls out b W hl ho (by omega) (by omega) he hbus
      have hmk := fun W => run_make_row' (P := Try.prog) 25 3 (.int .i64 0) 8 Try.underlying25 info_int rfl .i64 .i64 ls.length (by omega) (by omega) W
      clear he hob hv
      generalize svcL out ls.length = sv at *
      have KO := Lib.hid ko
      have KI := Lib.hid ki
      have HALL := Lib.hid hall
      have HSV := Lib.hid hsv
      have HAT := Lib.hid hat
      have KAT := Lib.hid kat
      clear ko ki hall hsv hat kat
      have hn6 : n ≤ 6 := by omega
      have hn1 : 1 ≤ n := by omega
      clear hlo hhi
      have HB0 := Lib.hid (Below.refl w.heap.size w)
      go_enter Try.func6, Try.ntmps6
      go_wp2_with fail
      have hb := below_alloc2 w (.cells #[.int .i64 (n : Int), .slice A ls.length c] 24) (.cells #[.slice O out.length co] 25)
      have q0 : ((w.alloc (.cells #[.int .i64 (n : Int), .slice A ls.length c] 24)).alloc (.cells #[.slice O out.length co] 25)).cell? ⟨w.heap.size, 0, none⟩ = some (.int .i64 (n : Int)) := by simp
      have q1 : ((w.alloc (.cells #[.int .i64 (n : Int), .slice A ls.length c] 24)).alloc (.cells #[.slice O out.length co] 25)).cell? ⟨w.heap.size, 1, none⟩ = some (.slice A ls.length c) := by simp
      have hz : w.heap.size < ((w.alloc (.cells #[.int .i64 (n : Int), .slice A ls.length c] 24)).alloc (.cells #[.slice O out.length co] 25)).heap.size := by simp; omega
      have HB1 := Lib.hid (HB0.out.trans (hb.mono HB0.out.size))
      clear HB0
      replace HL := Lib.hid (HL.out.upto hb)
      replace HO := Lib.hid (HO.out.upto hb)
      clear hb
      refine (KL.out (w.alloc (.cells #[.int .i64 (n : Int), .slice A ls.length c] 24)) _ (by simp)).mono ?_
      rintro e w2 ⟨rfl, hb⟩
      rw [← World.size_alloc (w.alloc (.cells #[.int .i64 (n : Int), .slice A ls.length c] 24)) (.cells #[.slice O out.length co] 25)] at hb
      have HB2 := Lib.hid (HB1.out.trans (hb.mono HB1.out.size))
      clear HB1
      replace HL := Lib.hid (HL.out.upto hb)
      replace HO := Lib.hid (HO.out.upto hb)
      replace q0 := (hb.cell (p := ⟨w.heap.size, 0, none⟩) hz).trans q0
      replace q1 := (hb.cell (p := ⟨w.heap.size, 1, none⟩) hz).trans q1
      replace hz : w.heap.size < w2.heap.size := Nat.lt_of_lt_of_le hz hb.size
      clear hb
      go_wp2_with fail
      refine (awake14_any _).mono ?_
      rintro e w3 ⟨rfl, hb⟩
      have HB3 := Lib.hid (HB2.out.trans (hb.mono HB2.out.size))
      clear HB2
      replace HL := Lib.hid (HL.out.upto hb)
      replace HO := Lib.hid (HO.out.upto hb)
      replace q0 := (hb.cell (p := ⟨w.heap.size, 0, none⟩) hz).trans q0
      replace q1 := (hb.cell (p := ⟨w.heap.size, 1, none⟩) hz).trans q1
      replace hz : w.heap.size < w3.heap.size := Nat.lt_of_lt_of_le hz hb.size
      clear hb
      go_wp2_with fail
      refine (KO.out _ HL.out HO.out).mono ?_
      rintro e w4 ⟨rfl, hb⟩
      have HB4 := Lib.hid (HB3.out.trans (hb.mono HB3.out.size))
      clear HB3
      replace HL := Lib.hid (HL.out.upto hb)
      replace HO := Lib.hid (HO.out.upto hb)
      replace q0 := (hb.cell (p := ⟨w.heap.size, 0, none⟩) hz).trans q0
      replace q1 := (hb.cell (p := ⟨w.heap.size, 1, none⟩) hz).trans q1
      replace hz : w.heap.size < w4.heap.size := Nat.lt_of_lt_of_le hz hb.size
      clear hb
      go_wp2_with fail
      refine (KI.out _ HL.out HO.out).mono ?_
      rintro e w5 ⟨v, rfl, hown, hb⟩
      obtain ⟨Ai, ci, rfl, hI⟩ := ownsRow_ints hown
      have HIi := Lib.hid hI
      clear hown hI
      have HB5 := Lib.hid (HB4.out.trans (hb.mono HB4.out.size))
      clear HB4
      replace HL := Lib.hid (HL.out.upto hb)
      replace HO := Lib.hid (HO.out.upto hb)
      replace q0 := (hb.cell (p := ⟨w.heap.size, 0, none⟩) hz).trans q0
      replace q1 := (hb.cell (p := ⟨w.heap.size, 1, none⟩) hz).trans q1
      replace hz : w.heap.size < w5.heap.size := Nat.lt_of_lt_of_le hz hb.size
      clear hb
      go_wp2_with fail
      have HR0 := Lib.hid (rowI_made w5 3 ls.length)
      have hbm : Below w5.heap.size w5 (w5.alloc (.cells (madeCells #[.int .i64 0] ls.length) 3)) := (Below.refl _ _).alloc (Nat.le_refl _) _
      have hsm : w5.heap.size < (w5.alloc (.cells (madeCells #[.int .i64 0] ls.length) 3)).heap.size := by simp
      have HBM := Lib.hid hbm
      generalize hX : w5.alloc (.cells (madeCells #[.int .i64 0] ls.length) 3) = w7 at *
      clear hX hbm
      have HQ := Lib.hid (And.intro q0 q1)
      clear q0 q1
      clear hmk
      generalize hG : w5.heap.size = G at *
      have HGG := Lib.hid hG
      clear hG
      go_loopg [4, 8, 9, 10, 11, 12] n (fun g s4 s8 i s10 s11 s12 wr => ∃ b : Nat, b + g = n ∧ i = .int .i64 b ∧ s8 = .int .i64 ((allAt ls sv b).length : Nat) ∧ RowI 3 wr G (cntL' ls.length (allAt ls sv b)) ∧ Below G w5 wr ∧ G < wr.heap.size)
      case atStart => exact ⟨0, by omega, rfl, rfl, HR0.out, HBM.out, hsm⟩
      case round =>
        clear HR0 HBM hsm
        obtain ⟨b, hbg, rfl, rfl, hrow, hbel, hsz⟩ := hrel
        have hlb : (allAt ls sv b).length ≤ 600 := Nat.le_trans (allAt_le ls sv b) (Nat.mul_le_mul (show b ≤ 6 by omega) (show sv.length ≤ 100 by omega))
        have p0 := (hbel.cell (p := ⟨w.heap.size, 0, none⟩) hz).trans HQ.out.1
        have p1 := (hbel.cell (p := ⟨w.heap.size, 1, none⟩) hz).trans HQ.out.2
        have HR := Lib.hid hrow
        have HBW := Lib.hid hbel
        clear hrow hbel
        cases gk with
        | zero =>
          obtain rfl : b = n := by omega
          clear hbg
          have b4 : (((allAt ls sv b).length : Nat) : Int) = 2 * (sv.length : Int) := by have := HALL.out.1; omega
          have b5 : ((2 * (sv.length : Int)) == (2 * (sv.length : Int))) = true := by simp
          rw [b4]
          clear b4 hlb
          go_wp2_with fail
          go_loopg [4, 13] sv.length (fun g s4 i wr' => ∃ k : Nat, k + g = sv.length ∧ i = .int .i64 k ∧ wr = wr')
          case atStart => exact ⟨0, by omega, rfl, rfl⟩
          case round =>
            obtain ⟨k, hkg, rfl, rfl⟩ := hrel
            cases gk with
            | zero =>
              obtain rfl : k = sv.length := by omega
              clear hkg
              go_wp2_with fail
              go_ret
              exact ⟨rfl, HB5.out.trans (HBW.out.mono (by omega))⟩
            | succ g =>
              have hk : k < sv.length := by omega
              have HG3 := Lib.hid hkg
              clear hkg
              obtain ⟨bb, off, rfl, hbb, hcc⟩ := HIi.out (by omega)
              have ek := hcc k hk
              obtain ⟨j, hj1, hj2⟩ := HSV.out k hk
              rw [hj1] at ek
              have ek' := (HBW.out.cell (p := ⟨bb, off + k, none⟩) (by have := HGG.out; show bb < G; omega)).trans ek
              have ec := HR.out.cell (i := j) (by rw [cntL'_length]; exact hj2)
              rw [cntL'_getD _ _ _ hj2, ← hj1, HALL.out.2 _ (by rw [getD_eq _ _ _ hk]; exact List.getElem_mem hk)] at ec
              clear hcc ek hj1
              have i1 : decide ((j : Int) < 0) = false := decide_eq_false (by omega)
              have i2 : decide ((ls.length : Int) ≤ (j : Int)) = false := decide_eq_false (by omega)
              go_wp2_with fail
              go_roundg g
              case measure => omega
              case rel => exact ⟨k + 1, by have := HG3.out; omega, by go_num, rfl⟩
        | succ g =>
          have hb : b < n := by omega
          have HG1 := Lib.hid hbg
          clear hbg
          have ka := KAT.out b hb
          have hal := atF_le ls (b : Int) sv
          have hasn := allAt_succ ls sv b
          have hat := HAT.out (b : Int)
          generalize hl : atF ls (b : Int) sv = l at *
          have HSN := Lib.hid hasn
          have KA := Lib.hid ka
          have HATL := Lib.hid hat
          clear hl hasn ka hat
          generalize allAt ls sv b = L at *
          have hw6 := HGG.out
          go_wp2_with fail
          refine (KA.out wr ((HL.out.below HBW.out).more (by omega)) ((HO.out.below HBW.out).more (by omega))).mono ?_
          rintro e w8 ⟨v, rfl, hown, hb8⟩
          have hs8 := hb8.size
          obtain ⟨gl, hAl⟩ : ∃ gl, G < gl ∧ (∃ Al cl, v = .slice Al l.length cl ∧ (0 < l.length → Al = some ⟨gl, 0, none⟩ ∧ ∀ j, j < l.length → w8.cell? ⟨gl, j, none⟩ = some (.int .i64 (l.getD j 0)))) := by
            rcases hown.2 with ⟨rfl, h0⟩ | ⟨gl, cap, cur8, rfl, hbs, _⟩
            · exact ⟨G + 1, by omega, none, 0, by rw [h0], fun h => by omega⟩
            · refine ⟨gl, by omega, _, _, rfl, fun h => ⟨rfl, fun j hj => ?_⟩⟩
              rw [hown.cellAt j (by omega)]
              simp [hj]
          obtain ⟨hgl, Al, cl, rfl, hcl⟩ := hAl
          have HCL := Lib.hid hcl
          have hrow8 : RowI 3 w8 G (cntL' ls.length L) := (hb8.block G hsz).trans HR.out
          have HB8 := Lib.hid (HBW.out.trans (hb8.mono (by omega)))
          have HR8 := Lib.hid hrow8
          have hsz8 : G < w8.heap.size := by omega
          clear hown hb8 hcl hrow8 HR HBW p0 p1 hs8 hsz
          go_wp2_with fail
          go_loopg [4, 8, 12] l.length (fun g2 s4 s8 i wr' => ∃ k : Nat, k + g2 = l.length ∧ i = .int .i64 k ∧ s8 = .int .i64 ((L.length + k : Nat)) ∧ RowI 3 wr' G (cntL' ls.length (L ++ l.take k)) ∧ Below G w5 wr' ∧ G < wr'.heap.size ∧ (0 < l.length → ∀ j, j < l.length → wr'.cell? ⟨gl, j, none⟩ = some (.int .i64 (l.getD j 0))))
          case atStart => exact ⟨0, by omega, rfl, by simp, by simpa using HR8.out, HB8.out, hsz8, fun h => (HCL.out h).2⟩
          case round =>
            clear HR8 HB8 hsz8
            obtain ⟨k, hkg, rfl, rfl, hrow, hbel, hsz, hcl⟩ := hrel
            have HR := Lib.hid hrow
            have HBW := Lib.hid hbel
            have HCC := Lib.hid hcl
            clear hrow hbel hcl
            cases gk with
            | zero =>
              obtain rfl : k = l.length := by omega
              clear hkg
              go_wp2_with fail
              go_roundg g
              case measure => omega
              case rel =>
                refine ⟨b + 1, by have := HG1.out; omega, by go_num, ?_, ?_, HBW.out, hsz⟩
                · rw [HSN.out, List.length_append]
                · rw [HSN.out]
                  have := HR.out
                  rwa [List.take_length] at this
            | succ g2 =>
              have hk : k < l.length := by omega
              have HG2 := Lib.hid hkg
              clear hkg
              obtain ⟨rfl, _⟩ := HCL.out (by omega)
              have ek := HCC.out (by omega) k hk
              obtain ⟨⟨j, hj1, hj2⟩, hprev⟩ := HATL.out k hk
              have hct := cnt_le (L ++ l.take k) (j : Int)
              have hctl : (L ++ l.take k).length = L.length + k := by simp; omega
              have hsn := cntL'_snoc ls.length (L ++ l.take k) j hj2
              have htk : L ++ l.take (k + 1) = L ++ l.take k ++ [(j : Int)] := by rw [List.take_succ_eq_append_getElem hk, ← List.append_assoc, ← hj1, getD_eq _ _ _ hk]
              have ec := HR.out.cell (i := j) (by rw [cntL'_length]; exact hj2)
              have ez := HR.out.frozen j
              rw [cntL'_getD _ _ _ hj2] at ec
              rw [hj1] at ek
              have HSN2 := Lib.hid (hsn.trans (congrArg (cntL' ls.length) htk.symm))
              have hset := fun (z : Int) => HR.out.set_ j z
              have HSET := Lib.hid hset
              clear hsn htk hset
              have hz1 : ((List.count (j : Int) (L ++ l.take k) : Nat) : Int) ≤ 100000 := by omega
              have hz0 : 0 ≤ ((List.count (j : Int) (L ++ l.take k) : Nat) : Int) := by omega
              generalize ((List.count (j : Int) (L ++ l.take k) : Nat) : Int) = z at *
              clear hct hctl
              have i1 : decide ((j : Int) < 0) = false := decide_eq_false (by omega)
              have i2 : decide ((ls.length : Int) ≤ (j : Int)) = false := decide_eq_false (by omega)
              have i3 : (0 : Int) ≤ (k : Int) := by omega
              have i4 : (k : Int) < (l.length : Int) := by omega
              have hgG : ¬ gl = G := by omega
              have hgG' : ¬ G = gl := by omega
              have hLb : L.length ≤ 1000 := by omega
              have fin := fun (wz : World) (hw : wz = wr) => hw
              by_cases h0 : k = 0
              · have H0 := Lib.hid h0
                have i5 : decide (0 < k) = false := by simp [h0]
                have i6 : ¬ 0 < k := by omega
                clear h0 hprev
                go_wp2_with fail
                refine region_quiet (fun jq => match jq with | 0 => .slice (some ⟨gl, 0, none⟩) l.length cl | 1 => .int .i64 (k : Int) | 2 => .pointer (some ⟨gl, k, none⟩) | 3 => .int .i64 (j : Int) | 4 => .bool false | 5 => .bool false | 6 => .slice (some ⟨gl, 0, none⟩) l.length cl | 7 => .int .i64 (k : Int) | 8 => .pointer (some ⟨gl, k, none⟩) | 9 => .int .i64 (j : Int) | 10 => .slice (some ⟨G, 0, none⟩) ls.length ls.length | 11 => .int .i64 (ls.length : Int) | 12 => .bool false | 13 => .bool false | 14 => .bool false | 15 => .int .i64 (k : Int) | 16 => .bool false | 17 => .bool false | 18 => undef | 19 => undef | 20 => undef | 21 => undef | 22 => undef | 23 => undef | 24 => undef | 25 => undef | 26 => undef | 27 => undef | 28 => .bool false | 29 => .bool false | _ => undef) (by kernel_rfl) (by kernel_rfl) ?_ ?_
                · intro i o ho a hdep hrest hgd
                  have r7 : a.eval (.tmp 7) = .slice (some ⟨G, 0, none⟩) ls.length ls.length := hrest 7 (apart_of (by kernel_rfl))
                  have r10 : a.eval (.tmp 10) = .slice (some ⟨gl, 0, none⟩) l.length cl := hrest 10 (apart_of (by kernel_rfl))
                  have r12 : a.eval (.tmp 12) = .int .i64 (k : Int) := hrest 12 (apart_of (by kernel_rfl))
                  have hc : ∀ v, a.eval (.const v) = v := fun _ => rfl
                  clear hrest
                  rcases i with _ | _ | _ | _ | _ | _ | _ | _ | _ | _ | _ | _ | _ | _ | _ | _ | _ | _ | _ | _ | _ | _ | _ | _ | _ | _ | _ | _ | _ | _ | i
                  · injection ho with ho
                    subst ho
                    clear hdep hgd
                    refine ⟨fun _ => ?_, fun hw => by simp [Region.wanted] at hw⟩
                    generalize a.eval = ρ at *
                    simp [go_sem, r10]
                  · injection ho with ho
                    subst ho
                    clear hdep hgd
                    refine ⟨fun _ => ?_, fun hw => by simp [Region.wanted] at hw⟩
                    generalize a.eval = ρ at *
                    simp [go_sem, r12]
                  · injection ho with ho
                    subst ho
                    have e0 : a.eval (.tmp 62) = .slice (some ⟨gl, 0, none⟩) l.length cl := hdep ⟨0, .data⟩ (by simp) rfl _ _ rfl rfl
                    have e1 : a.eval (.tmp 63) = .int .i64 (k : Int) := hdep ⟨1, .data⟩ (by simp) rfl _ _ rfl rfl
                    clear hdep hgd
                    refine ⟨fun _ => ?_, fun hw => by simp [Region.wanted] at hw⟩
                    generalize a.eval = ρ at *
                    simp [go_sem, e0, e1, hk]
                  · injection ho with ho
                    subst ho
                    have e2 : a.eval (.tmp 64) = .pointer (some ⟨gl, k, none⟩) := hdep ⟨2, .data⟩ (by simp) rfl _ _ rfl rfl
                    clear hdep hgd
                    refine ⟨fun _ => ?_, fun hw => by simp [Region.wanted] at hw⟩
                    generalize a.eval = ρ at *
                    simp [go_sem, e2, ek]
                  · injection ho with ho
                    subst ho
                    have e3 : a.eval (.tmp 65) = .int .i64 (j : Int) := hdep ⟨3, .data⟩ (by simp) rfl _ _ rfl rfl
                    clear hdep hgd
                    refine ⟨fun _ => ?_, fun hw => by simp [Region.wanted] at hw⟩
                    generalize a.eval = ρ at *
                    simp [go_sem, e3, i1, hc]
                  · injection ho with ho
                    subst ho
                    have e4 : a.eval (.tmp 66) = .bool false := hdep ⟨4, .data⟩ (by simp) rfl _ _ rfl rfl
                    clear hdep hgd
                    refine ⟨fun _ => ?_, fun hw => by simp [Region.wanted] at hw⟩
                    generalize a.eval = ρ at *
                    simp [go_sem, e4]
                  · injection ho with ho
                    subst ho
                    have h8 : a.tmps.getD 67 undef = .bool false := hdep ⟨5, .guard⟩ (by simp) rfl _ _ rfl rfl
                    have hwd := hgd 5 false rfl _ _ rfl rfl false h8
                    clear hdep hgd
                    refine ⟨fun _ => ?_, fun hw => (by rw [hwd] at hw; cases hw)⟩
                    clear h8 hwd
                    generalize a.eval = ρ at *
                    simp [go_sem, r10]
                  · injection ho with ho
                    subst ho
                    have h8 : a.tmps.getD 67 undef = .bool false := hdep ⟨5, .guard⟩ (by simp) rfl _ _ rfl rfl
                    have hwd := hgd 5 false rfl _ _ rfl rfl false h8
                    clear hdep hgd
                    refine ⟨fun _ => ?_, fun hw => (by rw [hwd] at hw; cases hw)⟩
                    clear h8 hwd
                    generalize a.eval = ρ at *
                    simp [go_sem, r12]
                  · injection ho with ho
                    subst ho
                    have e6 : a.eval (.tmp 68) = .slice (some ⟨gl, 0, none⟩) l.length cl := hdep ⟨6, .data⟩ (by simp) rfl _ _ rfl rfl
                    have e7 : a.eval (.tmp 69) = .int .i64 (k : Int) := hdep ⟨7, .data⟩ (by simp) rfl _ _ rfl rfl
                    have h8 : a.tmps.getD 67 undef = .bool false := hdep ⟨5, .guard⟩ (by simp) rfl _ _ rfl rfl
                    have hwd := hgd 5 false rfl _ _ rfl rfl false h8
                    clear hdep hgd
                    refine ⟨fun _ => ?_, fun hw => (by rw [hwd] at hw; cases hw)⟩
                    clear h8 hwd
                    generalize a.eval = ρ at *
                    simp [go_sem, e6, e7, hk]
                  · injection ho with ho
                    subst ho
                    have e8 : a.eval (.tmp 70) = .pointer (some ⟨gl, k, none⟩) := hdep ⟨8, .data⟩ (by simp) rfl _ _ rfl rfl
                    have h8 : a.tmps.getD 67 undef = .bool false := hdep ⟨5, .guard⟩ (by simp) rfl _ _ rfl rfl
                    have hwd := hgd 5 false rfl _ _ rfl rfl false h8
                    clear hdep hgd
                    refine ⟨fun _ => ?_, fun hw => (by rw [hwd] at hw; cases hw)⟩
                    clear h8 hwd
                    generalize a.eval = ρ at *
                    simp [go_sem, e8, ek]
                  · injection ho with ho
                    subst ho
                    have h8 : a.tmps.getD 67 undef = .bool false := hdep ⟨5, .guard⟩ (by simp) rfl _ _ rfl rfl
                    have hwd := hgd 5 false rfl _ _ rfl rfl false h8
                    clear hdep hgd
                    refine ⟨fun _ => ?_, fun hw => (by rw [hwd] at hw; cases hw)⟩
                    clear h8 hwd
                    generalize a.eval = ρ at *
                    simp [go_sem, r7]
                  · injection ho with ho
                    subst ho
                    have e10 : a.eval (.tmp 72) = .slice (some ⟨G, 0, none⟩) ls.length ls.length := hdep ⟨10, .data⟩ (by simp) rfl _ _ rfl rfl
                    have h8 : a.tmps.getD 67 undef = .bool false := hdep ⟨5, .guard⟩ (by simp) rfl _ _ rfl rfl
                    have hwd := hgd 5 false rfl _ _ rfl rfl false h8
                    clear hdep hgd
                    refine ⟨fun _ => ?_, fun hw => (by rw [hwd] at hw; cases hw)⟩
                    clear h8 hwd
                    generalize a.eval = ρ at *
                    simp [go_sem, e10]
                  · injection ho with ho
                    subst ho
                    have e9 : a.eval (.tmp 71) = .int .i64 (j : Int) := hdep ⟨9, .data⟩ (by simp) rfl _ _ rfl rfl
                    have e11 : a.eval (.tmp 73) = .int .i64 (ls.length : Int) := hdep ⟨11, .data⟩ (by simp) rfl _ _ rfl rfl
                    have h8 : a.tmps.getD 67 undef = .bool false := hdep ⟨5, .guard⟩ (by simp) rfl _ _ rfl rfl
                    have hwd := hgd 5 false rfl _ _ rfl rfl false h8
                    clear hdep hgd
                    refine ⟨fun _ => ?_, fun hw => (by rw [hwd] at hw; cases hw)⟩
                    clear h8 hwd
                    generalize a.eval = ρ at *
                    simp [go_sem, e9, e11, hj2]
                  · injection ho with ho
                    subst ho
                    have e5 : a.eval (.tmp 67) = .bool false := hdep ⟨5, .data⟩ (by simp) rfl _ _ rfl rfl
                    have e12 : a.eval (.tmp 74) = .bool false := hdep ⟨12, .data⟩ (by simp) rfl _ _ rfl rfl
                    clear hdep hgd
                    refine ⟨fun _ => ?_, fun hw => by simp [Region.wanted] at hw⟩
                    generalize a.eval = ρ at *
                    simp [go_sem, e5, e12, hc]
                  · injection ho with ho
                    subst ho
                    have e13 : a.eval (.tmp 75) = .bool false := hdep ⟨13, .data⟩ (by simp) rfl _ _ rfl rfl
                    clear hdep hgd
                    refine ⟨fun _ => ?_, fun hw => by simp [Region.wanted] at hw⟩
                    generalize a.eval = ρ at *
                    simp [go_sem, e13]
                  · injection ho with ho
                    subst ho
                    have h8 : a.tmps.getD 76 undef = .bool false := hdep ⟨14, .guard⟩ (by simp) rfl _ _ rfl rfl
                    have hwd := hgd 14 false rfl _ _ rfl rfl false h8
                    clear hdep hgd
                    refine ⟨fun _ => ?_, fun hw => (by rw [hwd] at hw; cases hw)⟩
                    clear h8 hwd
                    generalize a.eval = ρ at *
                    simp [go_sem, r12]
                  · injection ho with ho
                    subst ho
                    have e15 : a.eval (.tmp 77) = .int .i64 (k : Int) := hdep ⟨15, .data⟩ (by simp) rfl _ _ rfl rfl
                    have h8 : a.tmps.getD 76 undef = .bool false := hdep ⟨14, .guard⟩ (by simp) rfl _ _ rfl rfl
                    have hwd := hgd 14 false rfl _ _ rfl rfl false h8
                    clear hdep hgd
                    refine ⟨fun _ => ?_, fun hw => (by rw [hwd] at hw; cases hw)⟩
                    clear h8 hwd
                    generalize a.eval = ρ at *
                    simp [go_sem, e15, i6, hc]
                  · injection ho with ho
                    subst ho
                    have e16 : a.eval (.tmp 78) = .bool false := hdep ⟨16, .data⟩ (by simp) rfl _ _ rfl rfl
                    have h8 : a.tmps.getD 76 undef = .bool false := hdep ⟨14, .guard⟩ (by simp) rfl _ _ rfl rfl
                    have hwd := hgd 14 false rfl _ _ rfl rfl false h8
                    clear hdep hgd
                    refine ⟨fun _ => ?_, fun hw => (by rw [hwd] at hw; cases hw)⟩
                    clear h8 hwd
                    generalize a.eval = ρ at *
                    simp [go_sem, e16]
                  · injection ho with ho
                    subst ho
                    have h8 : a.tmps.getD 79 undef = .bool false := hdep ⟨17, .guard⟩ (by simp) rfl _ _ rfl rfl
                    have hwd := hgd 17 true rfl _ _ rfl rfl false h8
                    clear hdep hgd
                    exact ⟨fun hw => (by rw [hwd] at hw; cases hw), fun _ => rfl⟩
                  · injection ho with ho
                    subst ho
                    have h8 : a.tmps.getD 79 undef = .bool false := hdep ⟨17, .guard⟩ (by simp) rfl _ _ rfl rfl
                    have hwd := hgd 17 true rfl _ _ rfl rfl false h8
                    clear hdep hgd
                    exact ⟨fun hw => (by rw [hwd] at hw; cases hw), fun _ => rfl⟩
                  · injection ho with ho
                    subst ho
                    have e18 : a.eval (.tmp 80) = undef := hdep ⟨18, .data⟩ (by simp) rfl _ _ rfl rfl
                    have e19 : a.eval (.tmp 81) = undef := hdep ⟨19, .data⟩ (by simp) rfl _ _ rfl rfl
                    have h8 : a.tmps.getD 79 undef = .bool false := hdep ⟨17, .guard⟩ (by simp) rfl _ _ rfl rfl
                    have hwd := hgd 17 true rfl _ _ rfl rfl false h8
                    clear hdep hgd
                    exact ⟨fun hw => (by rw [hwd] at hw; cases hw), fun _ => rfl⟩
                  · injection ho with ho
                    subst ho
                    have e20 : a.eval (.tmp 82) = undef := hdep ⟨20, .data⟩ (by simp) rfl _ _ rfl rfl
                    have h8 : a.tmps.getD 79 undef = .bool false := hdep ⟨17, .guard⟩ (by simp) rfl _ _ rfl rfl
                    have hwd := hgd 17 true rfl _ _ rfl rfl false h8
                    clear hdep hgd
                    exact ⟨fun hw => (by rw [hwd] at hw; cases hw), fun _ => rfl⟩
                  · injection ho with ho
                    subst ho
                    have h8 : a.tmps.getD 79 undef = .bool false := hdep ⟨17, .guard⟩ (by simp) rfl _ _ rfl rfl
                    have hwd := hgd 17 true rfl _ _ rfl rfl false h8
                    clear hdep hgd
                    exact ⟨fun hw => (by rw [hwd] at hw; cases hw), fun _ => rfl⟩
                  · injection ho with ho
                    subst ho
                    have h8 : a.tmps.getD 79 undef = .bool false := hdep ⟨17, .guard⟩ (by simp) rfl _ _ rfl rfl
                    have hwd := hgd 17 true rfl _ _ rfl rfl false h8
                    clear hdep hgd
                    exact ⟨fun hw => (by rw [hwd] at hw; cases hw), fun _ => rfl⟩
                  · injection ho with ho
                    subst ho
                    have e23 : a.eval (.tmp 85) = undef := hdep ⟨23, .data⟩ (by simp) rfl _ _ rfl rfl
                    have h8 : a.tmps.getD 79 undef = .bool false := hdep ⟨17, .guard⟩ (by simp) rfl _ _ rfl rfl
                    have hwd := hgd 17 true rfl _ _ rfl rfl false h8
                    clear hdep hgd
                    exact ⟨fun hw => (by rw [hwd] at hw; cases hw), fun _ => rfl⟩
                  · injection ho with ho
                    subst ho
                    have e22 : a.eval (.tmp 84) = undef := hdep ⟨22, .data⟩ (by simp) rfl _ _ rfl rfl
                    have e24 : a.eval (.tmp 86) = undef := hdep ⟨24, .data⟩ (by simp) rfl _ _ rfl rfl
                    have h8 : a.tmps.getD 79 undef = .bool false := hdep ⟨17, .guard⟩ (by simp) rfl _ _ rfl rfl
                    have hwd := hgd 17 true rfl _ _ rfl rfl false h8
                    clear hdep hgd
                    exact ⟨fun hw => (by rw [hwd] at hw; cases hw), fun _ => rfl⟩
                  · injection ho with ho
                    subst ho
                    have e25 : a.eval (.tmp 87) = undef := hdep ⟨25, .data⟩ (by simp) rfl _ _ rfl rfl
                    have h8 : a.tmps.getD 79 undef = .bool false := hdep ⟨17, .guard⟩ (by simp) rfl _ _ rfl rfl
                    have hwd := hgd 17 true rfl _ _ rfl rfl false h8
                    clear hdep hgd
                    exact ⟨fun hw => (by rw [hwd] at hw; cases hw), fun _ => rfl⟩
                  · injection ho with ho
                    subst ho
                    have e21 : a.eval (.tmp 83) = undef := hdep ⟨21, .data⟩ (by simp) rfl _ _ rfl rfl
                    have e26 : a.eval (.tmp 88) = undef := hdep ⟨26, .data⟩ (by simp) rfl _ _ rfl rfl
                    have h8 : a.tmps.getD 79 undef = .bool false := hdep ⟨17, .guard⟩ (by simp) rfl _ _ rfl rfl
                    have hwd := hgd 17 true rfl _ _ rfl rfl false h8
                    clear hdep hgd
                    exact ⟨fun hw => (by rw [hwd] at hw; cases hw), fun _ => rfl⟩
                  · injection ho with ho
                    subst ho
                    have e17 : a.eval (.tmp 79) = .bool false := hdep ⟨17, .data⟩ (by simp) rfl _ _ rfl rfl
                    have h8 : a.tmps.getD 76 undef = .bool false := hdep ⟨14, .guard⟩ (by simp) rfl _ _ rfl rfl
                    have hwd := hgd 14 false rfl _ _ rfl rfl false h8
                    clear hdep hgd
                    refine ⟨fun _ => ?_, fun hw => (by rw [hwd] at hw; cases hw)⟩
                    clear h8 hwd
                    generalize a.eval = ρ at *
                    simp [go_sem, e17, hc]
                  · injection ho with ho
                    subst ho
                    have e14 : a.eval (.tmp 76) = .bool false := hdep ⟨14, .data⟩ (by simp) rfl _ _ rfl rfl
                    have e28 : a.eval (.tmp 90) = .bool false := hdep ⟨28, .data⟩ (by simp) rfl _ _ rfl rfl
                    clear hdep hgd
                    refine ⟨fun _ => ?_, fun hw => by simp [Region.wanted] at hw⟩
                    generalize a.eval = ρ at *
                    simp [go_sem, e14, e28, hc]
                  · simp at ho
                simp only [putAll, Act.put, List.setIfInBounds_toArray, List.set_cons_zero, List.set_cons_succ, Nat.reduceAdd]
                go_wp2_with fail
                go_roundg g2
                case measure => omega
                case rel => exact end_rel k G gl (by have := HG2.out; omega) (by go_num) (by go_num) HSN2.out HSET.out HBW.out hsz hgG HCC.out
              · have i5 : decide (0 < k) = true := by simp; omega
                have i6 : 0 < k := by omega
                have ep := HCC.out (by omega) (k - 1) (by omega)
                have hlt := hprev i6
                rw [hj1] at hlt
                have i7 : ¬ (j : Int) ≤ l.getD (k - 1) 0 := by omega
                have e1 : ((k : Int) - 1).toNat = k - 1 := by omega
                have e2 : IntKind.i64.wrap ((k : Int) - 1) = (k : Int) - 1 := IntWalk.i64_in _ (by omega)
                have e3 : (0 : Int) ≤ (k : Int) - 1 := by omega
                have e4 : (k : Int) - 1 < (l.length : Int) := by omega
                have e5 : ¬ (k : Int) < 1 := by omega
                clear hprev hlt h0
                generalize l.getD (k - 1) 0 = y at *
                go_wp2_with fail
                refine region_quiet (fun jq => match jq with | 0 => .slice (some ⟨gl, 0, none⟩) l.length cl | 1 => .int .i64 (k : Int) | 2 => .pointer (some ⟨gl, k, none⟩) | 3 => .int .i64 (j : Int) | 4 => .bool false | 5 => .bool false | 6 => .slice (some ⟨gl, 0, none⟩) l.length cl | 7 => .int .i64 (k : Int) | 8 => .pointer (some ⟨gl, k, none⟩) | 9 => .int .i64 (j : Int) | 10 => .slice (some ⟨G, 0, none⟩) ls.length ls.length | 11 => .int .i64 (ls.length : Int) | 12 => .bool false | 13 => .bool false | 14 => .bool false | 15 => .int .i64 (k : Int) | 16 => .bool true | 17 => .bool true | 18 => .slice (some ⟨gl, 0, none⟩) l.length cl | 19 => .int .i64 (k : Int) | 20 => .pointer (some ⟨gl, k, none⟩) | 21 => .int .i64 (j : Int) | 22 => .slice (some ⟨gl, 0, none⟩) l.length cl | 23 => .int .i64 (k : Int) | 24 => .int .i64 ((k : Int) - 1) | 25 => .pointer (some ⟨gl, k - 1, none⟩) | 26 => .int .i64 y | 27 => .bool false | 28 => .bool false | 29 => .bool false | _ => undef) (by kernel_rfl) (by kernel_rfl) ?_ ?_
                · intro i o ho a hdep hrest hgd
                  have r7 : a.eval (.tmp 7) = .slice (some ⟨G, 0, none⟩) ls.length ls.length := hrest 7 (apart_of (by kernel_rfl))
                  have r10 : a.eval (.tmp 10) = .slice (some ⟨gl, 0, none⟩) l.length cl := hrest 10 (apart_of (by kernel_rfl))
                  have r12 : a.eval (.tmp 12) = .int .i64 (k : Int) := hrest 12 (apart_of (by kernel_rfl))
                  have hc : ∀ v, a.eval (.const v) = v := fun _ => rfl
                  clear hrest
                  rcases i with _ | _ | _ | _ | _ | _ | _ | _ | _ | _ | _ | _ | _ | _ | _ | _ | _ | _ | _ | _ | _ | _ | _ | _ | _ | _ | _ | _ | _ | _ | i
                  · injection ho with ho
                    subst ho
                    clear hdep hgd
                    refine ⟨fun _ => ?_, fun hw => by simp [Region.wanted] at hw⟩
                    generalize a.eval = ρ at *
                    simp [go_sem, r10]
                  · injection ho with ho
                    subst ho
                    clear hdep hgd
                    refine ⟨fun _ => ?_, fun hw => by simp [Region.wanted] at hw⟩
                    generalize a.eval = ρ at *
                    simp [go_sem, r12]
                  · injection ho with ho
                    subst ho
                    have e0 : a.eval (.tmp 62) = .slice (some ⟨gl, 0, none⟩) l.length cl := hdep ⟨0, .data⟩ (by simp) rfl _ _ rfl rfl
                    have e1 : a.eval (.tmp 63) = .int .i64 (k : Int) := hdep ⟨1, .data⟩ (by simp) rfl _ _ rfl rfl
                    clear hdep hgd
                    refine ⟨fun _ => ?_, fun hw => by simp [Region.wanted] at hw⟩
                    generalize a.eval = ρ at *
                    simp [go_sem, e0, e1, hk]
                  · injection ho with ho
                    subst ho
                    have e2 : a.eval (.tmp 64) = .pointer (some ⟨gl, k, none⟩) := hdep ⟨2, .data⟩ (by simp) rfl _ _ rfl rfl
                    clear hdep hgd
                    refine ⟨fun _ => ?_, fun hw => by simp [Region.wanted] at hw⟩
                    generalize a.eval = ρ at *
                    simp [go_sem, e2, ek]
                  · injection ho with ho
                    subst ho
                    have e3 : a.eval (.tmp 65) = .int .i64 (j : Int) := hdep ⟨3, .data⟩ (by simp) rfl _ _ rfl rfl
                    clear hdep hgd
                    refine ⟨fun _ => ?_, fun hw => by simp [Region.wanted] at hw⟩
                    generalize a.eval = ρ at *
                    simp [go_sem, e3, i1, hc]
                  · injection ho with ho
                    subst ho
                    have e4 : a.eval (.tmp 66) = .bool false := hdep ⟨4, .data⟩ (by simp) rfl _ _ rfl rfl
                    clear hdep hgd
                    refine ⟨fun _ => ?_, fun hw => by simp [Region.wanted] at hw⟩
                    generalize a.eval = ρ at *
                    simp [go_sem, e4]
                  · injection ho with ho
                    subst ho
                    have h8 : a.tmps.getD 67 undef = .bool false := hdep ⟨5, .guard⟩ (by simp) rfl _ _ rfl rfl
                    have hwd := hgd 5 false rfl _ _ rfl rfl false h8
                    clear hdep hgd
                    refine ⟨fun _ => ?_, fun hw => (by rw [hwd] at hw; cases hw)⟩
                    clear h8 hwd
                    generalize a.eval = ρ at *
                    simp [go_sem, r10]
                  · injection ho with ho
                    subst ho
                    have h8 : a.tmps.getD 67 undef = .bool false := hdep ⟨5, .guard⟩ (by simp) rfl _ _ rfl rfl
                    have hwd := hgd 5 false rfl _ _ rfl rfl false h8
                    clear hdep hgd
                    refine ⟨fun _ => ?_, fun hw => (by rw [hwd] at hw; cases hw)⟩
                    clear h8 hwd
                    generalize a.eval = ρ at *
                    simp [go_sem, r12]
                  · injection ho with ho
                    subst ho
                    have e6 : a.eval (.tmp 68) = .slice (some ⟨gl, 0, none⟩) l.length cl := hdep ⟨6, .data⟩ (by simp) rfl _ _ rfl rfl
                    have e7 : a.eval (.tmp 69) = .int .i64 (k : Int) := hdep ⟨7, .data⟩ (by simp) rfl _ _ rfl rfl
                    have h8 : a.tmps.getD 67 undef = .bool false := hdep ⟨5, .guard⟩ (by simp) rfl _ _ rfl rfl
                    have hwd := hgd 5 false rfl _ _ rfl rfl false h8
                    clear hdep hgd
                    refine ⟨fun _ => ?_, fun hw => (by rw [hwd] at hw; cases hw)⟩
                    clear h8 hwd
                    generalize a.eval = ρ at *
                    simp [go_sem, e6, e7, hk]
                  · injection ho with ho
                    subst ho
                    have e8 : a.eval (.tmp 70) = .pointer (some ⟨gl, k, none⟩) := hdep ⟨8, .data⟩ (by simp) rfl _ _ rfl rfl
                    have h8 : a.tmps.getD 67 undef = .bool false := hdep ⟨5, .guard⟩ (by simp) rfl _ _ rfl rfl
                    have hwd := hgd 5 false rfl _ _ rfl rfl false h8
                    clear hdep hgd
                    refine ⟨fun _ => ?_, fun hw => (by rw [hwd] at hw; cases hw)⟩
                    clear h8 hwd
                    generalize a.eval = ρ at *
                    simp [go_sem, e8, ek]
                  · injection ho with ho
                    subst ho
                    have h8 : a.tmps.getD 67 undef = .bool false := hdep ⟨5, .guard⟩ (by simp) rfl _ _ rfl rfl
                    have hwd := hgd 5 false rfl _ _ rfl rfl false h8
                    clear hdep hgd
                    refine ⟨fun _ => ?_, fun hw => (by rw [hwd] at hw; cases hw)⟩
                    clear h8 hwd
                    generalize a.eval = ρ at *
                    simp [go_sem, r7]
                  · injection ho with ho
                    subst ho
                    have e10 : a.eval (.tmp 72) = .slice (some ⟨G, 0, none⟩) ls.length ls.length := hdep ⟨10, .data⟩ (by simp) rfl _ _ rfl rfl
                    have h8 : a.tmps.getD 67 undef = .bool false := hdep ⟨5, .guard⟩ (by simp) rfl _ _ rfl rfl
                    have hwd := hgd 5 false rfl _ _ rfl rfl false h8
                    clear hdep hgd
                    refine ⟨fun _ => ?_, fun hw => (by rw [hwd] at hw; cases hw)⟩
                    clear h8 hwd
                    generalize a.eval = ρ at *
                    simp [go_sem, e10]
                  · injection ho with ho
                    subst ho
                    have e9 : a.eval (.tmp 71) = .int .i64 (j : Int) := hdep ⟨9, .data⟩ (by simp) rfl _ _ rfl rfl
                    have e11 : a.eval (.tmp 73) = .int .i64 (ls.length : Int) := hdep ⟨11, .data⟩ (by simp) rfl _ _ rfl rfl
                    have h8 : a.tmps.getD 67 undef = .bool false := hdep ⟨5, .guard⟩ (by simp) rfl _ _ rfl rfl
                    have hwd := hgd 5 false rfl _ _ rfl rfl false h8
                    clear hdep hgd
                    refine ⟨fun _ => ?_, fun hw => (by rw [hwd] at hw; cases hw)⟩
                    clear h8 hwd
                    generalize a.eval = ρ at *
                    simp [go_sem, e9, e11, hj2]
                  · injection ho with ho
                    subst ho
                    have e5 : a.eval (.tmp 67) = .bool false := hdep ⟨5, .data⟩ (by simp) rfl _ _ rfl rfl
                    have e12 : a.eval (.tmp 74) = .bool false := hdep ⟨12, .data⟩ (by simp) rfl _ _ rfl rfl
                    clear hdep hgd
                    refine ⟨fun _ => ?_, fun hw => by simp [Region.wanted] at hw⟩
                    generalize a.eval = ρ at *
                    simp [go_sem, e5, e12, hc]
                  · injection ho with ho
                    subst ho
                    have e13 : a.eval (.tmp 75) = .bool false := hdep ⟨13, .data⟩ (by simp) rfl _ _ rfl rfl
                    clear hdep hgd
                    refine ⟨fun _ => ?_, fun hw => by simp [Region.wanted] at hw⟩
                    generalize a.eval = ρ at *
                    simp [go_sem, e13]
                  · injection ho with ho
                    subst ho
                    have h8 : a.tmps.getD 76 undef = .bool false := hdep ⟨14, .guard⟩ (by simp) rfl _ _ rfl rfl
                    have hwd := hgd 14 false rfl _ _ rfl rfl false h8
                    clear hdep hgd
                    refine ⟨fun _ => ?_, fun hw => (by rw [hwd] at hw; cases hw)⟩
                    clear h8 hwd
                    generalize a.eval = ρ at *
                    simp [go_sem, r12]
                  · injection ho with ho
                    subst ho
                    have e15 : a.eval (.tmp 77) = .int .i64 (k : Int) := hdep ⟨15, .data⟩ (by simp) rfl _ _ rfl rfl
                    have h8 : a.tmps.getD 76 undef = .bool false := hdep ⟨14, .guard⟩ (by simp) rfl _ _ rfl rfl
                    have hwd := hgd 14 false rfl _ _ rfl rfl false h8
                    clear hdep hgd
                    refine ⟨fun _ => ?_, fun hw => (by rw [hwd] at hw; cases hw)⟩
                    clear h8 hwd
                    generalize a.eval = ρ at *
                    simp [go_sem, e15, i6, hc]
                  · injection ho with ho
                    subst ho
                    have e16 : a.eval (.tmp 78) = .bool true := hdep ⟨16, .data⟩ (by simp) rfl _ _ rfl rfl
                    have h8 : a.tmps.getD 76 undef = .bool false := hdep ⟨14, .guard⟩ (by simp) rfl _ _ rfl rfl
                    have hwd := hgd 14 false rfl _ _ rfl rfl false h8
                    clear hdep hgd
                    refine ⟨fun _ => ?_, fun hw => (by rw [hwd] at hw; cases hw)⟩
                    clear h8 hwd
                    generalize a.eval = ρ at *
                    simp [go_sem, e16]
                  · injection ho with ho
                    subst ho
                    have h8 : a.tmps.getD 79 undef = .bool true := hdep ⟨17, .guard⟩ (by simp) rfl _ _ rfl rfl
                    have hwd := hgd 17 true rfl _ _ rfl rfl true h8
                    clear hdep hgd
                    refine ⟨fun _ => ?_, fun hw => (by rw [hwd] at hw; cases hw)⟩
                    clear h8 hwd
                    generalize a.eval = ρ at *
                    simp [go_sem, r10]
                  · injection ho with ho
                    subst ho
                    have h8 : a.tmps.getD 79 undef = .bool true := hdep ⟨17, .guard⟩ (by simp) rfl _ _ rfl rfl
                    have hwd := hgd 17 true rfl _ _ rfl rfl true h8
                    clear hdep hgd
                    refine ⟨fun _ => ?_, fun hw => (by rw [hwd] at hw; cases hw)⟩
                    clear h8 hwd
                    generalize a.eval = ρ at *
                    simp [go_sem, r12]
                  · injection ho with ho
                    subst ho
                    have e18 : a.eval (.tmp 80) = .slice (some ⟨gl, 0, none⟩) l.length cl := hdep ⟨18, .data⟩ (by simp) rfl _ _ rfl rfl
                    have e19 : a.eval (.tmp 81) = .int .i64 (k : Int) := hdep ⟨19, .data⟩ (by simp) rfl _ _ rfl rfl
                    have h8 : a.tmps.getD 79 undef = .bool true := hdep ⟨17, .guard⟩ (by simp) rfl _ _ rfl rfl
                    have hwd := hgd 17 true rfl _ _ rfl rfl true h8
                    clear hdep hgd
                    refine ⟨fun _ => ?_, fun hw => (by rw [hwd] at hw; cases hw)⟩
                    clear h8 hwd
                    generalize a.eval = ρ at *
                    simp [go_sem, e18, e19, hk]
                  · injection ho with ho
                    subst ho
                    have e20 : a.eval (.tmp 82) = .pointer (some ⟨gl, k, none⟩) := hdep ⟨20, .data⟩ (by simp) rfl _ _ rfl rfl
                    have h8 : a.tmps.getD 79 undef = .bool true := hdep ⟨17, .guard⟩ (by simp) rfl _ _ rfl rfl
                    have hwd := hgd 17 true rfl _ _ rfl rfl true h8
                    clear hdep hgd
                    refine ⟨fun _ => ?_, fun hw => (by rw [hwd] at hw; cases hw)⟩
                    clear h8 hwd
                    generalize a.eval = ρ at *
                    simp [go_sem, e20, ek]
                  · injection ho with ho
                    subst ho
                    have h8 : a.tmps.getD 79 undef = .bool true := hdep ⟨17, .guard⟩ (by simp) rfl _ _ rfl rfl
                    have hwd := hgd 17 true rfl _ _ rfl rfl true h8
                    clear hdep hgd
                    refine ⟨fun _ => ?_, fun hw => (by rw [hwd] at hw; cases hw)⟩
                    clear h8 hwd
                    generalize a.eval = ρ at *
                    simp [go_sem, r10]
                  · injection ho with ho
                    subst ho
                    have h8 : a.tmps.getD 79 undef = .bool true := hdep ⟨17, .guard⟩ (by simp) rfl _ _ rfl rfl
                    have hwd := hgd 17 true rfl _ _ rfl rfl true h8
                    clear hdep hgd
                    refine ⟨fun _ => ?_, fun hw => (by rw [hwd] at hw; cases hw)⟩
                    clear h8 hwd
                    generalize a.eval = ρ at *
                    simp [go_sem, r12]
                  · injection ho with ho
                    subst ho
                    have e23 : a.eval (.tmp 85) = .int .i64 (k : Int) := hdep ⟨23, .data⟩ (by simp) rfl _ _ rfl rfl
                    have h8 : a.tmps.getD 79 undef = .bool true := hdep ⟨17, .guard⟩ (by simp) rfl _ _ rfl rfl
                    have hwd := hgd 17 true rfl _ _ rfl rfl true h8
                    clear hdep hgd
                    refine ⟨fun _ => ?_, fun hw => (by rw [hwd] at hw; cases hw)⟩
                    clear h8 hwd
                    generalize a.eval = ρ at *
                    simp [go_sem, e23, e2, hc]
                  · injection ho with ho
                    subst ho
                    have e22 : a.eval (.tmp 84) = .slice (some ⟨gl, 0, none⟩) l.length cl := hdep ⟨22, .data⟩ (by simp) rfl _ _ rfl rfl
                    have e24 : a.eval (.tmp 86) = .int .i64 ((k : Int) - 1) := hdep ⟨24, .data⟩ (by simp) rfl _ _ rfl rfl
                    have h8 : a.tmps.getD 79 undef = .bool true := hdep ⟨17, .guard⟩ (by simp) rfl _ _ rfl rfl
                    have hwd := hgd 17 true rfl _ _ rfl rfl true h8
                    clear hdep hgd
                    refine ⟨fun _ => ?_, fun hw => (by rw [hwd] at hw; cases hw)⟩
                    clear h8 hwd
                    generalize a.eval = ρ at *
                    simp [go_sem, e22, e24, e1, e4, e5]
                  · injection ho with ho
                    subst ho
                    have e25 : a.eval (.tmp 87) = .pointer (some ⟨gl, k - 1, none⟩) := hdep ⟨25, .data⟩ (by simp) rfl _ _ rfl rfl
                    have h8 : a.tmps.getD 79 undef = .bool true := hdep ⟨17, .guard⟩ (by simp) rfl _ _ rfl rfl
                    have hwd := hgd 17 true rfl _ _ rfl rfl true h8
                    clear hdep hgd
                    refine ⟨fun _ => ?_, fun hw => (by rw [hwd] at hw; cases hw)⟩
                    clear h8 hwd
                    generalize a.eval = ρ at *
                    simp [go_sem, e25, ep]
                  · injection ho with ho
                    subst ho
                    have e21 : a.eval (.tmp 83) = .int .i64 (j : Int) := hdep ⟨21, .data⟩ (by simp) rfl _ _ rfl rfl
                    have e26 : a.eval (.tmp 88) = .int .i64 y := hdep ⟨26, .data⟩ (by simp) rfl _ _ rfl rfl
                    have h8 : a.tmps.getD 79 undef = .bool true := hdep ⟨17, .guard⟩ (by simp) rfl _ _ rfl rfl
                    have hwd := hgd 17 true rfl _ _ rfl rfl true h8
                    clear hdep hgd
                    refine ⟨fun _ => ?_, fun hw => (by rw [hwd] at hw; cases hw)⟩
                    clear h8 hwd
                    generalize a.eval = ρ at *
                    simp [go_sem, e21, e26, i7]
                  · injection ho with ho
                    subst ho
                    have e17 : a.eval (.tmp 79) = .bool true := hdep ⟨17, .data⟩ (by simp) rfl _ _ rfl rfl
                    have e27 : a.eval (.tmp 89) = .bool false := hdep ⟨27, .data⟩ (by simp) rfl _ _ rfl rfl
                    have h8 : a.tmps.getD 76 undef = .bool false := hdep ⟨14, .guard⟩ (by simp) rfl _ _ rfl rfl
                    have hwd := hgd 14 false rfl _ _ rfl rfl false h8
                    clear hdep hgd
                    refine ⟨fun _ => ?_, fun hw => (by rw [hwd] at hw; cases hw)⟩
                    clear h8 hwd
                    generalize a.eval = ρ at *
                    simp [go_sem, e17, e27, hc]
                  · injection ho with ho
                    subst ho
                    have e14 : a.eval (.tmp 76) = .bool false := hdep ⟨14, .data⟩ (by simp) rfl _ _ rfl rfl
                    have e28 : a.eval (.tmp 90) = .bool false := hdep ⟨28, .data⟩ (by simp) rfl _ _ rfl rfl
                    clear hdep hgd
                    refine ⟨fun _ => ?_, fun hw => by simp [Region.wanted] at hw⟩
                    generalize a.eval = ρ at *
                    simp [go_sem, e14, e28, hc]
                  · simp at ho
                simp only [putAll, Act.put, List.setIfInBounds_toArray, List.set_cons_zero, List.set_cons_succ, Nat.reduceAdd]
                clear e2
                go_wp2_with fail
                go_roundg g2
                case measure => omega
                case rel => exact end_rel k G gl (by have := HG2.out; omega) (by go_num) (by go_num) HSN2.out HSET.out HBW.out hsz hgG HCC.out
    · have b1 : (outsE nb ls out != 0) = true := by rw [bne_iff_ne]; exact he
      generalize outsE nb ls out = er at *
      have KO := Lib.hid ko
      clear ko he
      have HB0 := Lib.hid (Below.refl w.heap.size w)
      go_enter Try.func6, Try.ntmps6
      go_wp2_with fail
      have hb := below_alloc2 w (.cells #[.int .i64 nb, .slice A ls.length c] 24) (.cells #[.slice O out.length co] 25)
      have q0 : ((w.alloc (.cells #[.int .i64 nb, .slice A ls.length c] 24)).alloc (.cells #[.slice O out.length co] 25)).cell? ⟨w.heap.size, 0, none⟩ = some (.int .i64 nb) := by simp
      have q1 : ((w.alloc (.cells #[.int .i64 nb, .slice A ls.length c] 24)).alloc (.cells #[.slice O out.length co] 25)).cell? ⟨w.heap.size, 1, none⟩ = some (.slice A ls.length c) := by simp
      have hz : w.heap.size < ((w.alloc (.cells #[.int .i64 nb, .slice A ls.length c] 24)).alloc (.cells #[.slice O out.length co] 25)).heap.size := by simp; omega
      have HB1 := Lib.hid (HB0.out.trans (hb.mono HB0.out.size))
      clear HB0
      replace HL := Lib.hid (HL.out.upto hb)
      replace HO := Lib.hid (HO.out.upto hb)
      clear hb
      refine (KL.out (w.alloc (.cells #[.int .i64 nb, .slice A ls.length c] 24)) _ (by simp)).mono ?_
      rintro e w2 ⟨rfl, hb⟩
      rw [← World.size_alloc (w.alloc (.cells #[.int .i64 nb, .slice A ls.length c] 24)) (.cells #[.slice O out.length co] 25)] at hb
      have HB2 := Lib.hid (HB1.out.trans (hb.mono HB1.out.size))
      clear HB1
      replace HL := Lib.hid (HL.out.upto hb)
      replace HO := Lib.hid (HO.out.upto hb)
      replace q0 := (hb.cell (p := ⟨w.heap.size, 0, none⟩) hz).trans q0
      replace q1 := (hb.cell (p := ⟨w.heap.size, 1, none⟩) hz).trans q1
      replace hz : w.heap.size < w2.heap.size := Nat.lt_of_lt_of_le hz hb.size
      clear hb
      go_wp2_with fail
      refine (awake14_any _).mono ?_
      rintro e w3 ⟨rfl, hb⟩
      have HB3 := Lib.hid (HB2.out.trans (hb.mono HB2.out.size))
      clear HB2
      replace HL := Lib.hid (HL.out.upto hb)
      replace HO := Lib.hid (HO.out.upto hb)
      replace q0 := (hb.cell (p := ⟨w.heap.size, 0, none⟩) hz).trans q0
      replace q1 := (hb.cell (p := ⟨w.heap.size, 1, none⟩) hz).trans q1
      replace hz : w.heap.size < w3.heap.size := Nat.lt_of_lt_of_le hz hb.size
      clear hb
      go_wp2_with fail
      refine (KO.out _ HL.out HO.out).mono ?_
      rintro e w4 ⟨rfl, hb⟩
      have HB4 := Lib.hid (HB3.out.trans (hb.mono HB3.out.size))
      clear HB3
      replace HL := Lib.hid (HL.out.upto hb)
      replace HO := Lib.hid (HO.out.upto hb)
      replace q0 := (hb.cell (p := ⟨w.heap.size, 0, none⟩) hz).trans q0
      replace q1 := (hb.cell (p := ⟨w.heap.size, 1, none⟩) hz).trans q1
      replace hz : w.heap.size < w4.heap.size := Nat.lt_of_lt_of_le hz hb.size
      clear hb
      go_wp2_with fail
      refine (awake14_any _).mono ?_
      rintro e w5 ⟨rfl, hb⟩
      have HB5 := Lib.hid (HB4.out.trans (hb.mono HB4.out.size))
      clear HB4
      replace HL := Lib.hid (HL.out.upto hb)
      replace HO := Lib.hid (HO.out.upto hb)
      replace q0 := (hb.cell (p := ⟨w.heap.size, 0, none⟩) hz).trans q0
      replace q1 := (hb.cell (p := ⟨w.heap.size, 1, none⟩) hz).trans q1
      replace hz : w.heap.size < w5.heap.size := Nat.lt_of_lt_of_le hz hb.size
      clear hb
      go_wp2_with fail
      go_ret
      exact ⟨rfl, HB5.out⟩
end Go.Proofs.Ytcacaiakkfgdpaa
