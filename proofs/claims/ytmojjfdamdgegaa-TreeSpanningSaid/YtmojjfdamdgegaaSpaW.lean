/- The walk of TreeSpanning. -/
import Derived.Test.YtmojjfdamdgegaaTreH
import Derived.Test.YtmojjfdamdgegaaSpaQ
import Derived.Test.YtmojjfdamdgegaaIslF
import Derived.Deep.DeepCutAuto
namespace Go.Proofs.Ytmojjfdamdgegaa
open Go.RowKit
set_option linter.unusedVariables false

def spaF (nb : Int) (A : Option Addr) (c m : Nat) (At : Option Addr) (n ct B : Nat) (rl la : List Int) (i : Nat) (v : Value) (W : World) : Prop :=
  match i with
  | 0 => v = .agg #[.int .i64 nb, .slice A m c]
  | 1 => v = .agg #[.int .i64 nb, .slice A m c]
  | 2 => v = .slice At n ct
  | 3 => W.ownsRow B 3 1 v rl.length (rl.map (Value.int .i64))
  | 4 => ∃ u, v = .tuple #[u, .int .i64 0] ∧ W.ownsRow B 3 1 u la.length (la.map (Value.int .i64))
  | 5 => ∃ u, v = .tuple #[u, .int .i64 0] ∧ W.ownsRow B 3 1 u la.length (la.map (Value.int .i64))
  | 6 => W.ownsRow B 3 1 v la.length (la.map (Value.int .i64))
  | 7 => v = .int .i64 0
  | 8 => W.ownsRow B 3 1 v la.length (la.map (Value.int .i64))
  | 9 => v = .int .i64 0
  | _ => True
theorem spaF_up {nb : Int} {A : Option Addr} {c m : Nat} {At : Option Addr} {n ct B : Nat} {rl la : List Int} {i : Nat} {v : Value} {W W' : World} (hb : Below W.heap.size W W') (h : spaF nb A c m At n ct B rl la i v W) : spaF nb A c m At n ct B rl la i v W' := by
  unfold spaF at h ⊢
  split at h
  all_goals first
    | exact h
    | exact ownsRow_below h hb
    | (obtain ⟨u, h1, h2⟩ := h; exact ⟨u, h1, ownsRow_below h2 hb⟩)

set_option maxRecDepth 100000 in
set_option maxHeartbeats 8000000 in
theorem spa_walk (nb : Int) (A : Option Addr) (c : Nat) (ls : List Ln) (O : Option Addr) (co : Nat) (out : List Int) (w : World) (hl : LinesR w w.heap.size A ls) (ho : IntsR w w.heap.size O out) :
    Calls Try.prog 6 #[.agg #[.int .i64 nb, .slice A ls.length c], .slice O out.length co] w fun e w' => e = .returned (.bool true) ∧ Below w.heap.size w w' := by
  have HL := Lib.hid hl
  have HO := Lib.hid ho
  clear hl ho
  have kl := fun W b hb => long_lit1 (.int .i64 nb) A ls.length c 25 W b hb O out.length co
  cases hlong : longB [out.length] ls.length with
  | true =>
    rw [hlong] at kl
    have KL := Lib.hid kl
    clear kl hlong
    have HB0 := Lib.hid (Below.refl w.heap.size w)
    go_enter Try.func6, Try.ntmps6
    go_wp2_with fail
    have hb := below_alloc2 w (.cells #[.int .i64 nb, .slice A ls.length c] 24) (.cells #[.slice O out.length co] 25)
    have q0 : ((w.alloc (.cells #[.int .i64 nb, .slice A ls.length c] 24)).alloc (.cells #[.slice O out.length co] 25)).cell? ⟨w.heap.size, 0, none⟩ = some (.int .i64 nb) := by simp
    have q1 : ((w.alloc (.cells #[.int .i64 nb, .slice A ls.length c] 24)).alloc (.cells #[.slice O out.length co] 25)).cell? ⟨w.heap.size, 1, none⟩ = some (.slice A ls.length c) := by simp
    have hz : w.heap.size < ((w.alloc (.cells #[.int .i64 nb, .slice A ls.length c] 24)).alloc (.cells #[.slice O out.length co] 25)).heap.size := by simp; omega
    have HB1 := Lib.hid (HB0.out.trans (hb.mono HB0.out.size))
    clear HB0
    replace HL := Lib.hid (HL.out.upto hb)
    replace HO := Lib.hid (HO.out.upto hb)
    clear hb
    refine (KL.out (w.alloc (.cells #[.int .i64 nb, .slice A ls.length c] 24)) _ (by simp)).mono ?_
    rintro e w2 ⟨rfl, hb⟩
    rw [← World.size_alloc (w.alloc (.cells #[.int .i64 nb, .slice A ls.length c] 24)) (.cells #[.slice O out.length co] 25)] at hb
    have HB2 := Lib.hid (HB1.out.trans (hb.mono HB1.out.size))
    clear HB1
    replace HL := Lib.hid (HL.out.upto hb)
    replace HO := Lib.hid (HO.out.upto hb)
    replace q0 := (hb.cell (p := ⟨w.heap.size, 0, none⟩) hz).trans q0
    replace q1 := (hb.cell (p := ⟨w.heap.size, 1, none⟩) hz).trans q1
    replace hz : w.heap.size < w2.heap.size := Nat.lt_of_lt_of_le hz hb.size
    clear hb
    go_wp2_with fail
    refine (awake16_any _).mono ?_
    rintro e w3 ⟨rfl, hb⟩
    have HB3 := Lib.hid (HB2.out.trans (hb.mono HB2.out.size))
    clear HB2
    replace HL := Lib.hid (HL.out.upto hb)
    replace HO := Lib.hid (HO.out.upto hb)
    replace q0 := (hb.cell (p := ⟨w.heap.size, 0, none⟩) hz).trans q0
    replace q1 := (hb.cell (p := ⟨w.heap.size, 1, none⟩) hz).trans q1
    replace hz : w.heap.size < w3.heap.size := Nat.lt_of_lt_of_le hz hb.size
    clear hb
    go_wp2_with fail
    go_ret
    exact ⟨rfl, HB3.out⟩
  | false =>
    rw [hlong] at kl
    have hb100 := longB_false hlong
    have h1 : out.length ≤ 100 := hb100.1 _ (by simp)
    have h2 : ls.length ≤ 100 := hb100.2
    have KL := Lib.hid kl
    clear kl hlong hb100
    have ko := fun W hl ho => outs_any nb A O c co ls out W hl ho (by omega) (by omega)
    by_cases he : outsE nb ls out = 0
    · have hc := (check_of_outs he).1
      have htl : treeL nb ls out = treeTo nb ls (svcL out ls.length) (svcL out ls.length).length := by rw [treeL, if_pos he]
      have hot : outsB ls.length (treeL nb ls out) = true := by rw [htl]; exact tree_outs he _
      have hvv := valid_of_check hc
      have hlo := hvv.lo
      have hhi := hvv.hi
      have hin := tree_in he
      have htb := asc_of.1 hot
      have hnot : ∀ x ∈ treeL nb ls out, x ∉ out := fun x hx => by
        rw [htl] at hx
        exact ((svc_mem (check_of_outs he).2 x).1 (((treeTo_sub _ _ _ _).trans (List.take_sublist _ _)).subset hx)).2.2
      have hcnt := tree_cnt he _ (Nat.le_refl _)
      rw [← htl] at hcnt
      have hcn : cntL nb ls out = nb - ((treeL nb ls out).length : Int) := by
        rw [← hcnt]
        unfold cntL refsL
        rw [tree_of he]
      have kt := fun W hl ho => tree_any nb A O c co ls out W hl ho (by omega) (by omega)
      have ka := fun W hl ho => of_any nb A O c co ls out W hl ho (by omega) (by omega)
      have kn := fun W hl ho => count_any nb A O c co ls out W hl ho (by omega) (by omega)
      rw [he] at ko kt ka kn
      rw [hcn] at kn
      have hrl := svcL_le (treeL nb ls out) ls.length
      have krs := fun X cx W hi => rest_any (.int .i64 nb) A X c cx ls.length (treeL nb ls out) W hi (by omega) (by omega)
      rw [← svcL_eq hot] at krs
      have kb := fun X cx W hl hi => of_any nb A X c cx ls (svcL (treeL nb ls out) ls.length) W hl hi (by omega) (by omega)
      rw [rest_ok hc hot, tree_of he] at kb
      have kg := fun X cx W hl hi => bridges_any nb A X c cx ls (svcL (treeL nb ls out) ls.length) W hl hi (by omega) (by omega)
      rw [rest_ok hc hot, tree_brg he] at kg
      have hla := ofL_length_le nb ls out
      clear he hc htl hot hvv hcnt hcn
      generalize svcL (treeL nb ls out) ls.length = rl at *
      generalize treeL nb ls out = tl at *
      generalize ofL nb ls out = la at *
      have ksa := fun X Y cx cy W hx hy => ints_same X Y cx cy la W hx hy (by omega)
      have kst := fun X Y cx cy W hx hy => ints_same X Y cx cy tl W hx hy (by omega)
      have KO := Lib.hid ko
      have KT := Lib.hid kt
      have KA := Lib.hid ka
      have KN := Lib.hid kn
      have KRS := Lib.hid krs
      have KB := Lib.hid kb
      have KG := Lib.hid kg
      have KSA := Lib.hid ksa
      have KST := Lib.hid kst
      have HTB := Lib.hid (And.intro htb hnot)
      have e1 : IntKind.i64.wrap (nb - (nb - (tl.length : Int))) = (tl.length : Int) := by rw [IntWalk.i64_in _ (by omega)]; omega
      have e2 : ((tl.length : Int) != (tl.length : Int)) = false := by simp
      clear ko kt ka kn krs kb kg ksa kst htb hnot
      have HB0 := Lib.hid (Below.refl w.heap.size w)
      go_enter Try.func6, Try.ntmps6
      go_wp2_with fail
      have hb := below_alloc2 w (.cells #[.int .i64 nb, .slice A ls.length c] 24) (.cells #[.slice O out.length co] 25)
      have q0 : ((w.alloc (.cells #[.int .i64 nb, .slice A ls.length c] 24)).alloc (.cells #[.slice O out.length co] 25)).cell? ⟨w.heap.size, 0, none⟩ = some (.int .i64 nb) := by simp
      have q1 : ((w.alloc (.cells #[.int .i64 nb, .slice A ls.length c] 24)).alloc (.cells #[.slice O out.length co] 25)).cell? ⟨w.heap.size, 1, none⟩ = some (.slice A ls.length c) := by simp
      have hz : w.heap.size < ((w.alloc (.cells #[.int .i64 nb, .slice A ls.length c] 24)).alloc (.cells #[.slice O out.length co] 25)).heap.size := by simp; omega
      have HB1 := Lib.hid (HB0.out.trans (hb.mono HB0.out.size))
      clear HB0
      replace HL := Lib.hid (HL.out.upto hb)
      replace HO := Lib.hid (HO.out.upto hb)
      clear hb
      refine (KL.out (w.alloc (.cells #[.int .i64 nb, .slice A ls.length c] 24)) _ (by simp)).mono ?_
      rintro e w2 ⟨rfl, hb⟩
      rw [← World.size_alloc (w.alloc (.cells #[.int .i64 nb, .slice A ls.length c] 24)) (.cells #[.slice O out.length co] 25)] at hb
      have HB2 := Lib.hid (HB1.out.trans (hb.mono HB1.out.size))
      clear HB1
      replace HL := Lib.hid (HL.out.upto hb)
      replace HO := Lib.hid (HO.out.upto hb)
      replace q0 := (hb.cell (p := ⟨w.heap.size, 0, none⟩) hz).trans q0
      replace q1 := (hb.cell (p := ⟨w.heap.size, 1, none⟩) hz).trans q1
      replace hz : w.heap.size < w2.heap.size := Nat.lt_of_lt_of_le hz hb.size
      clear hb
      go_wp2_with fail
      refine (awake16_any _).mono ?_
      rintro e w3 ⟨rfl, hb⟩
      have HB3 := Lib.hid (HB2.out.trans (hb.mono HB2.out.size))
      clear HB2
      replace HL := Lib.hid (HL.out.upto hb)
      replace HO := Lib.hid (HO.out.upto hb)
      replace q0 := (hb.cell (p := ⟨w.heap.size, 0, none⟩) hz).trans q0
      replace q1 := (hb.cell (p := ⟨w.heap.size, 1, none⟩) hz).trans q1
      replace hz : w.heap.size < w3.heap.size := Nat.lt_of_lt_of_le hz hb.size
      clear hb
      go_wp2_with fail
      refine (KO.out _ HL.out HO.out).mono ?_
      rintro e w4 ⟨rfl, hb⟩
      have HB4 := Lib.hid (HB3.out.trans (hb.mono HB3.out.size))
      clear HB3
      replace HL := Lib.hid (HL.out.upto hb)
      replace HO := Lib.hid (HO.out.upto hb)
      replace q0 := (hb.cell (p := ⟨w.heap.size, 0, none⟩) hz).trans q0
      replace q1 := (hb.cell (p := ⟨w.heap.size, 1, none⟩) hz).trans q1
      replace hz : w.heap.size < w4.heap.size := Nat.lt_of_lt_of_le hz hb.size
      clear hb
      go_wp2_with fail
      refine (KT.out _ HL.out HO.out).mono ?_
      rintro e w5 ⟨v, rfl, hown, hb⟩
      obtain ⟨At, ct, rfl, hI⟩ := ownsRow_ints hown
      have HIt := Lib.hid hI
      clear hown hI
      have HB5 := Lib.hid (HB4.out.trans (hb.mono HB4.out.size))
      clear HB4
      replace HL := Lib.hid (HL.out.upto hb)
      replace HO := Lib.hid (HO.out.upto hb)
      replace q0 := (hb.cell (p := ⟨w.heap.size, 0, none⟩) hz).trans q0
      replace q1 := (hb.cell (p := ⟨w.heap.size, 1, none⟩) hz).trans q1
      replace hz : w.heap.size < w5.heap.size := Nat.lt_of_lt_of_le hz hb.size
      clear hb
      go_wp2_with fail
      refine (KA.out _ HL.out HO.out).mono ?_
      rintro e w6 ⟨v, rfl, hown, hb⟩
      obtain ⟨Aa, ca, rfl, hI⟩ := ownsRow_ints hown
      have HIa := Lib.hid hI
      clear hown hI
      have HB6 := Lib.hid (HB5.out.trans (hb.mono HB5.out.size))
      clear HB5
      replace HL := Lib.hid (HL.out.upto hb)
      replace HO := Lib.hid (HO.out.upto hb)
      replace HIt := Lib.hid (HIt.out.upto hb)
      replace q0 := (hb.cell (p := ⟨w.heap.size, 0, none⟩) hz).trans q0
      replace q1 := (hb.cell (p := ⟨w.heap.size, 1, none⟩) hz).trans q1
      replace hz : w.heap.size < w6.heap.size := Nat.lt_of_lt_of_le hz hb.size
      clear hb
      go_wp2_with fail
      refine region_eachW (w0 := w6) (spaF nb A c ls.length At tl.length ct w6.heap.size rl la) (fun W => Below w6.heap.size w6 W) (by kernel_rfl) (by kernel_rfl) (Below.refl _ _).drew ?_ ?_
      · intro i o ho a W hI hdep hrest
        have r2 : a.eval (.tmp 2) = .pointer (some ⟨w.heap.size, 0, none⟩) := hrest 2 (apart_of (by kernel_rfl))
        have r5 : a.eval (.tmp 5) = .slice At tl.length ct := hrest 5 (apart_of (by kernel_rfl))
        have hfn : ∀ f, a.eval (.func f) = .func (.func f) #[] #[] := fun _ => rfl
        clear hrest
        rcases i with _ | _ | _ | _ | _ | _ | _ | _ | _ | _ | i
        · injection ho with ho
          subst ho
          have x0 := (hI.cell (p := ⟨w.heap.size, 0, none⟩) hz).trans q0
          have x1 := (hI.cell (p := ⟨w.heap.size, 1, none⟩) hz).trans q1
          refine ⟨fun _ K Q hK => wp_of_value (v := .agg #[.int .i64 nb, .slice A ls.length c]) ?_ (hK _ _ hI rfl fun _ _ h => h), fun hw => by simp [Region.wanted] at hw⟩
          clear hK hdep hI
          generalize a.eval = ρ at *
          simp [go_sem, r2, x0, x1]
        · injection ho with ho
          subst ho
          have x0 := (hI.cell (p := ⟨w.heap.size, 0, none⟩) hz).trans q0
          have x1 := (hI.cell (p := ⟨w.heap.size, 1, none⟩) hz).trans q1
          refine ⟨fun _ K Q hK => wp_of_value (v := .agg #[.int .i64 nb, .slice A ls.length c]) ?_ (hK _ _ hI rfl fun _ _ h => h), fun hw => by simp [Region.wanted] at hw⟩
          clear hK hdep hI
          generalize a.eval = ρ at *
          simp [go_sem, r2, x0, x1]
        · injection ho with ho
          subst ho
          refine ⟨fun _ K Q hK => wp_of_value (v := .slice At tl.length ct) ?_ (hK _ _ hI rfl fun _ _ h => h), fun hw => by simp [Region.wanted] at hw⟩
          clear hK hdep hI
          generalize a.eval = ρ at *
          simp [go_sem, r5]
        · injection ho with ho
          subst ho
          have e1 : a.eval (.tmp 47) = .agg #[.int .i64 nb, .slice A ls.length c] := (hdep ⟨1, .data⟩ (by simp) rfl _ rfl).1 _ rfl
          have e2 : a.eval (.tmp 48) = .slice At tl.length ct := (hdep ⟨2, .data⟩ (by simp) rfl _ rfl).1 _ rfl
          refine ⟨fun _ K Q hK => wp_of_enter (w' := W) (f := 27) (args := #[.agg #[.int .i64 nb, .slice A ls.length c], .slice At tl.length ct]) (R := fun v w' => w'.ownsRow W.heap.size 3 1 v rl.length (rl.map (Value.int .i64)) ∧ Below W.heap.size W w') ?_ ?_ ?_, fun hw => by simp [Region.wanted] at hw⟩
          · clear hK hdep hI
            generalize a.eval = ρ at *
            simp [go_sem, e1, e2, hfn]
          · exact (KRS.out _ _ W (HIt.out.upto hI)).mono fun e w' ⟨v, he, ho, hb⟩ => ⟨v, he, ho, hb⟩
          · rintro v w' ⟨ho, hb⟩
            exact hK v w' (hI.trans (hb.mono hI.size)) (ownsRow_base ho hI.size) fun jj u h => spaF_up hb h
        · injection ho with ho
          subst ho
          have e0 : a.eval (.tmp 46) = .agg #[.int .i64 nb, .slice A ls.length c] := (hdep ⟨0, .data⟩ (by simp) rfl _ rfl).1 _ rfl
          have e3 : W.ownsRow w6.heap.size 3 1 (a.eval (.tmp 49)) rl.length (rl.map (Value.int .i64)) := (hdep ⟨3, .data⟩ (by simp) rfl _ rfl).1 _ rfl
          obtain ⟨u, hu⟩ : ∃ u, a.eval (.tmp 49) = u := ⟨_, rfl⟩
          rw [hu] at e3
          obtain ⟨Ar, cr, rfl, hIr⟩ := ownsRow_ints e3
          refine ⟨fun _ K Q hK => wp_of_enter (w' := W) (f := 26) (args := #[.agg #[.int .i64 nb, .slice A ls.length c], .slice Ar rl.length cr]) (R := fun v w' => (∃ u, v = .tuple #[u, .int .i64 0] ∧ w'.ownsRow W.heap.size 3 1 u la.length (la.map (Value.int .i64))) ∧ Below W.heap.size W w') ?_ ?_ ?_, fun hw => by simp [Region.wanted] at hw⟩
          · clear hK hdep hI hIr e3
            generalize a.eval = ρ at *
            simp [go_sem, e0, hu, hfn]
          · exact (KB.out _ _ W (HL.out.upto hI) hIr).mono fun e w' ⟨v, he, ho, hb⟩ => ⟨_, he, ⟨v, rfl, ho⟩, hb⟩
          · rintro v w' ⟨⟨u, rfl, ho⟩, hb⟩
            exact hK _ w' (hI.trans (hb.mono hI.size)) ⟨u, rfl, ownsRow_base ho hI.size⟩ fun jj u h => spaF_up hb h
        · injection ho with ho
          subst ho
          have e4 : ∃ u, a.eval (.tmp 50) = .tuple #[u, .int .i64 0] ∧ W.ownsRow w6.heap.size 3 1 u la.length (la.map (Value.int .i64)) := (hdep ⟨4, .data⟩ (by simp) rfl _ rfl).1 _ rfl
          obtain ⟨u, hu, ho4⟩ := e4
          refine ⟨fun _ K Q hK => wp_of_value (v := .tuple #[u, .int .i64 0]) ?_ (hK _ _ hI ⟨u, rfl, ho4⟩ fun _ _ h => h), fun hw => by simp [Region.wanted] at hw⟩
          clear hK hdep hI
          generalize a.eval = ρ at *
          simp [go_sem, hu]
        · injection ho with ho
          subst ho
          have e5 : ∃ u, a.eval (.tmp 45) = .tuple #[u, .int .i64 0] ∧ W.ownsRow w6.heap.size 3 1 u la.length (la.map (Value.int .i64)) := (hdep ⟨5, .data⟩ (by simp) rfl _ rfl).1 _ rfl
          obtain ⟨u, hu, ho5⟩ := e5
          refine ⟨fun _ K Q hK => wp_of_value (v := u) ?_ (hK _ _ hI ho5 fun _ _ h => h), fun hw => by simp [Region.wanted] at hw⟩
          clear hK hdep hI
          generalize a.eval = ρ at *
          simp [go_sem, hu]
        · injection ho with ho
          subst ho
          have e5 : ∃ u, a.eval (.tmp 45) = .tuple #[u, .int .i64 0] ∧ W.ownsRow w6.heap.size 3 1 u la.length (la.map (Value.int .i64)) := (hdep ⟨5, .data⟩ (by simp) rfl _ rfl).1 _ rfl
          obtain ⟨u, hu, ho5⟩ := e5
          refine ⟨fun _ K Q hK => wp_of_value (v := .int .i64 0) ?_ (hK _ _ hI rfl fun _ _ h => h), fun hw => by simp [Region.wanted] at hw⟩
          clear hK hdep hI
          generalize a.eval = ρ at *
          simp [go_sem, hu]
        · injection ho with ho
          subst ho
          have e6 : W.ownsRow w6.heap.size 3 1 (a.eval (.tmp 51)) la.length (la.map (Value.int .i64)) := (hdep ⟨6, .data⟩ (by simp) rfl _ rfl).1 _ rfl
          obtain ⟨u, hu⟩ : ∃ u, a.eval (.tmp 51) = u := ⟨_, rfl⟩
          rw [hu] at e6
          refine ⟨fun _ K Q hK => wp_of_value (v := u) ?_ (hK _ _ hI e6 fun _ _ h => h), fun hw => by simp [Region.wanted] at hw⟩
          clear hK hdep hI
          generalize a.eval = ρ at *
          simp [go_sem, hu]
        · injection ho with ho
          subst ho
          have e7 : a.eval (.tmp 52) = .int .i64 0 := (hdep ⟨7, .data⟩ (by simp) rfl _ rfl).1 _ rfl
          refine ⟨fun _ K Q hK => wp_of_value (v := .int .i64 0) ?_ (hK _ _ hI rfl fun _ _ h => h), fun hw => by simp [Region.wanted] at hw⟩
          clear hK hdep hI
          generalize a.eval = ρ at *
          simp [go_sem, e7]
        · simp at ho
      · intro vs w7 hb hF
        have h8 : w7.ownsRow w6.heap.size 3 1 (vs 8) la.length (la.map (Value.int .i64)) := hF 8 (by decide)
        have h9 : vs 9 = .int .i64 0 := hF 9 (by decide)
        obtain ⟨Ab, cb, hv8, hI⟩ := ownsRow_ints h8
        have HIb := Lib.hid hI
        clear hF h8 hI
        simp only [putAll, Act.put, List.setIfInBounds_toArray, List.set_cons_zero, List.set_cons_succ, Nat.reduceAdd]
        rw [hv8, h9]
        clear hv8 h9
        have HB7 := Lib.hid (HB6.out.trans (hb.mono HB6.out.size))
        clear HB6
        replace HL := Lib.hid (HL.out.upto hb)
        replace HO := Lib.hid (HO.out.upto hb)
        replace HIt := Lib.hid (HIt.out.upto hb)
        replace HIa := Lib.hid (HIa.out.upto hb)
        replace q0 := (hb.cell (p := ⟨w.heap.size, 0, none⟩) hz).trans q0
        replace q1 := (hb.cell (p := ⟨w.heap.size, 1, none⟩) hz).trans q1
        replace hz : w.heap.size < w7.heap.size := Nat.lt_of_lt_of_le hz hb.size
        clear hb
        go_wp2_with fail
        refine (KN.out _ HL.out HO.out).mono ?_
        rintro e w8 ⟨rfl, hb⟩
        have HB8 := Lib.hid (HB7.out.trans (hb.mono HB7.out.size))
        clear HB7
        replace HL := Lib.hid (HL.out.upto hb)
        replace HO := Lib.hid (HO.out.upto hb)
        replace HIt := Lib.hid (HIt.out.upto hb)
        replace HIa := Lib.hid (HIa.out.upto hb)
        replace HIb := Lib.hid (HIb.out.upto hb)
        replace q0 := (hb.cell (p := ⟨w.heap.size, 0, none⟩) hz).trans q0
        replace q1 := (hb.cell (p := ⟨w.heap.size, 1, none⟩) hz).trans q1
        replace hz : w.heap.size < w8.heap.size := Nat.lt_of_lt_of_le hz hb.size
        clear hb
        go_wp2_with fail
        refine region_eachW (w0 := w8) (spaF nb A c ls.length At tl.length ct w8.heap.size rl tl) (fun W => Below w8.heap.size w8 W) (by kernel_rfl) (by kernel_rfl) (Below.refl _ _).drew ?_ ?_
        · intro i o ho a W hI hdep hrest
          have r2 : a.eval (.tmp 2) = .pointer (some ⟨w.heap.size, 0, none⟩) := hrest 2 (apart_of (by kernel_rfl))
          have r5 : a.eval (.tmp 5) = .slice At tl.length ct := hrest 5 (apart_of (by kernel_rfl))
          have hfn : ∀ f, a.eval (.func f) = .func (.func f) #[] #[] := fun _ => rfl
          clear hrest
          rcases i with _ | _ | _ | _ | _ | _ | _ | _ | _ | _ | i
          · injection ho with ho
            subst ho
            have x0 := (hI.cell (p := ⟨w.heap.size, 0, none⟩) hz).trans q0
            have x1 := (hI.cell (p := ⟨w.heap.size, 1, none⟩) hz).trans q1
            refine ⟨fun _ K Q hK => wp_of_value (v := .agg #[.int .i64 nb, .slice A ls.length c]) ?_ (hK _ _ hI rfl fun _ _ h => h), fun hw => by simp [Region.wanted] at hw⟩
            clear hK hdep hI
            generalize a.eval = ρ at *
            simp [go_sem, r2, x0, x1]
          · injection ho with ho
            subst ho
            have x0 := (hI.cell (p := ⟨w.heap.size, 0, none⟩) hz).trans q0
            have x1 := (hI.cell (p := ⟨w.heap.size, 1, none⟩) hz).trans q1
            refine ⟨fun _ K Q hK => wp_of_value (v := .agg #[.int .i64 nb, .slice A ls.length c]) ?_ (hK _ _ hI rfl fun _ _ h => h), fun hw => by simp [Region.wanted] at hw⟩
            clear hK hdep hI
            generalize a.eval = ρ at *
            simp [go_sem, r2, x0, x1]
          · injection ho with ho
            subst ho
            refine ⟨fun _ K Q hK => wp_of_value (v := .slice At tl.length ct) ?_ (hK _ _ hI rfl fun _ _ h => h), fun hw => by simp [Region.wanted] at hw⟩
            clear hK hdep hI
            generalize a.eval = ρ at *
            simp [go_sem, r5]
          · injection ho with ho
            subst ho
            have e1 : a.eval (.tmp 61) = .agg #[.int .i64 nb, .slice A ls.length c] := (hdep ⟨1, .data⟩ (by simp) rfl _ rfl).1 _ rfl
            have e2 : a.eval (.tmp 62) = .slice At tl.length ct := (hdep ⟨2, .data⟩ (by simp) rfl _ rfl).1 _ rfl
            refine ⟨fun _ K Q hK => wp_of_enter (w' := W) (f := 27) (args := #[.agg #[.int .i64 nb, .slice A ls.length c], .slice At tl.length ct]) (R := fun v w' => w'.ownsRow W.heap.size 3 1 v rl.length (rl.map (Value.int .i64)) ∧ Below W.heap.size W w') ?_ ?_ ?_, fun hw => by simp [Region.wanted] at hw⟩
            · clear hK hdep hI
              generalize a.eval = ρ at *
              simp [go_sem, e1, e2, hfn]
            · exact (KRS.out _ _ W (HIt.out.upto hI)).mono fun e w' ⟨v, he, ho, hb⟩ => ⟨v, he, ho, hb⟩
            · rintro v w' ⟨ho, hb⟩
              exact hK v w' (hI.trans (hb.mono hI.size)) (ownsRow_base ho hI.size) fun jj u h => spaF_up hb h
          · injection ho with ho
            subst ho
            have e0 : a.eval (.tmp 60) = .agg #[.int .i64 nb, .slice A ls.length c] := (hdep ⟨0, .data⟩ (by simp) rfl _ rfl).1 _ rfl
            have e3 : W.ownsRow w8.heap.size 3 1 (a.eval (.tmp 63)) rl.length (rl.map (Value.int .i64)) := (hdep ⟨3, .data⟩ (by simp) rfl _ rfl).1 _ rfl
            obtain ⟨u, hu⟩ : ∃ u, a.eval (.tmp 63) = u := ⟨_, rfl⟩
            rw [hu] at e3
            obtain ⟨Ar, cr, rfl, hIr⟩ := ownsRow_ints e3
            refine ⟨fun _ K Q hK => wp_of_enter (w' := W) (f := 16) (args := #[.agg #[.int .i64 nb, .slice A ls.length c], .slice Ar rl.length cr]) (R := fun v w' => (∃ u, v = .tuple #[u, .int .i64 0] ∧ w'.ownsRow W.heap.size 3 1 u tl.length (tl.map (Value.int .i64))) ∧ Below W.heap.size W w') ?_ ?_ ?_, fun hw => by simp [Region.wanted] at hw⟩
            · clear hK hdep hI hIr e3
              generalize a.eval = ρ at *
              simp [go_sem, e0, hu, hfn]
            · exact (KG.out _ _ W (HL.out.upto hI) hIr).mono fun e w' ⟨v, he, ho, hb⟩ => ⟨_, he, ⟨v, rfl, ho⟩, hb⟩
            · rintro v w' ⟨⟨u, rfl, ho⟩, hb⟩
              exact hK _ w' (hI.trans (hb.mono hI.size)) ⟨u, rfl, ownsRow_base ho hI.size⟩ fun jj u h => spaF_up hb h
          · injection ho with ho
            subst ho
            have e4 : ∃ u, a.eval (.tmp 64) = .tuple #[u, .int .i64 0] ∧ W.ownsRow w8.heap.size 3 1 u tl.length (tl.map (Value.int .i64)) := (hdep ⟨4, .data⟩ (by simp) rfl _ rfl).1 _ rfl
            obtain ⟨u, hu, ho4⟩ := e4
            refine ⟨fun _ K Q hK => wp_of_value (v := .tuple #[u, .int .i64 0]) ?_ (hK _ _ hI ⟨u, rfl, ho4⟩ fun _ _ h => h), fun hw => by simp [Region.wanted] at hw⟩
            clear hK hdep hI
            generalize a.eval = ρ at *
            simp [go_sem, hu]
          · injection ho with ho
            subst ho
            have e5 : ∃ u, a.eval (.tmp 59) = .tuple #[u, .int .i64 0] ∧ W.ownsRow w8.heap.size 3 1 u tl.length (tl.map (Value.int .i64)) := (hdep ⟨5, .data⟩ (by simp) rfl _ rfl).1 _ rfl
            obtain ⟨u, hu, ho5⟩ := e5
            refine ⟨fun _ K Q hK => wp_of_value (v := u) ?_ (hK _ _ hI ho5 fun _ _ h => h), fun hw => by simp [Region.wanted] at hw⟩
            clear hK hdep hI
            generalize a.eval = ρ at *
            simp [go_sem, hu]
          · injection ho with ho
            subst ho
            have e5 : ∃ u, a.eval (.tmp 59) = .tuple #[u, .int .i64 0] ∧ W.ownsRow w8.heap.size 3 1 u tl.length (tl.map (Value.int .i64)) := (hdep ⟨5, .data⟩ (by simp) rfl _ rfl).1 _ rfl
            obtain ⟨u, hu, ho5⟩ := e5
            refine ⟨fun _ K Q hK => wp_of_value (v := .int .i64 0) ?_ (hK _ _ hI rfl fun _ _ h => h), fun hw => by simp [Region.wanted] at hw⟩
            clear hK hdep hI
            generalize a.eval = ρ at *
            simp [go_sem, hu]
          · injection ho with ho
            subst ho
            have e6 : W.ownsRow w8.heap.size 3 1 (a.eval (.tmp 65)) tl.length (tl.map (Value.int .i64)) := (hdep ⟨6, .data⟩ (by simp) rfl _ rfl).1 _ rfl
            obtain ⟨u, hu⟩ : ∃ u, a.eval (.tmp 65) = u := ⟨_, rfl⟩
            rw [hu] at e6
            refine ⟨fun _ K Q hK => wp_of_value (v := u) ?_ (hK _ _ hI e6 fun _ _ h => h), fun hw => by simp [Region.wanted] at hw⟩
            clear hK hdep hI
            generalize a.eval = ρ at *
            simp [go_sem, hu]
          · injection ho with ho
            subst ho
            have e7 : a.eval (.tmp 66) = .int .i64 0 := (hdep ⟨7, .data⟩ (by simp) rfl _ rfl).1 _ rfl
            refine ⟨fun _ K Q hK => wp_of_value (v := .int .i64 0) ?_ (hK _ _ hI rfl fun _ _ h => h), fun hw => by simp [Region.wanted] at hw⟩
            clear hK hdep hI
            generalize a.eval = ρ at *
            simp [go_sem, e7]
          · simp at ho
        · intro vs w9 hb hF
          have h8 : w9.ownsRow w8.heap.size 3 1 (vs 8) tl.length (tl.map (Value.int .i64)) := hF 8 (by decide)
          have h9 : vs 9 = .int .i64 0 := hF 9 (by decide)
          obtain ⟨Ag, cg, hv8, hI⟩ := ownsRow_ints h8
          have HIg := Lib.hid hI
          clear hF h8 hI
          simp only [putAll, Act.put, List.setIfInBounds_toArray, List.set_cons_zero, List.set_cons_succ, Nat.reduceAdd]
          rw [hv8, h9]
          clear hv8 h9
          have HB9 := Lib.hid (HB8.out.trans (hb.mono HB8.out.size))
          clear HB8
          replace HL := Lib.hid (HL.out.upto hb)
          replace HO := Lib.hid (HO.out.upto hb)
          replace HIt := Lib.hid (HIt.out.upto hb)
          replace HIa := Lib.hid (HIa.out.upto hb)
          replace HIb := Lib.hid (HIb.out.upto hb)
          replace q0 := (hb.cell (p := ⟨w.heap.size, 0, none⟩) hz).trans q0
          replace q1 := (hb.cell (p := ⟨w.heap.size, 1, none⟩) hz).trans q1
          replace hz : w.heap.size < w9.heap.size := Nat.lt_of_lt_of_le hz hb.size
          clear hb
          go_wp2_with fail
          refine (KSA.out _ _ _ _ _ HIa.out HIb.out).mono ?_
          rintro e w10 ⟨rfl, hb⟩
          have HB10 := Lib.hid (HB9.out.trans (hb.mono HB9.out.size))
          clear HB9
          replace HL := Lib.hid (HL.out.upto hb)
          replace HO := Lib.hid (HO.out.upto hb)
          replace HIt := Lib.hid (HIt.out.upto hb)
          replace HIa := Lib.hid (HIa.out.upto hb)
          replace HIb := Lib.hid (HIb.out.upto hb)
          replace HIg := Lib.hid (HIg.out.upto hb)
          replace q0 := (hb.cell (p := ⟨w.heap.size, 0, none⟩) hz).trans q0
          replace q1 := (hb.cell (p := ⟨w.heap.size, 1, none⟩) hz).trans q1
          replace hz : w.heap.size < w10.heap.size := Nat.lt_of_lt_of_le hz hb.size
          clear hb
          go_wp2_with fail
          refine (KST.out _ _ _ _ _ HIg.out HIt.out).mono ?_
          rintro e w11 ⟨rfl, hb⟩
          have HB11 := Lib.hid (HB10.out.trans (hb.mono HB10.out.size))
          clear HB10
          replace HL := Lib.hid (HL.out.upto hb)
          replace HO := Lib.hid (HO.out.upto hb)
          replace HIt := Lib.hid (HIt.out.upto hb)
          replace HIa := Lib.hid (HIa.out.upto hb)
          replace HIb := Lib.hid (HIb.out.upto hb)
          replace HIg := Lib.hid (HIg.out.upto hb)
          replace q0 := (hb.cell (p := ⟨w.heap.size, 0, none⟩) hz).trans q0
          replace q1 := (hb.cell (p := ⟨w.heap.size, 1, none⟩) hz).trans q1
          replace hz : w.heap.size < w11.heap.size := Nat.lt_of_lt_of_le hz hb.size
          clear hb
          go_wp2_with fail
          clear HIa HIb HIg HL q0 KSA KST KG KB KRS KN KA KT
          go_loopg [15] tl.length (fun g i wr => ∃ k : Nat, k + g = tl.length ∧ i = .int .i64 k ∧ IntsR wr wr.heap.size O out ∧ IntsR wr wr.heap.size At tl ∧ wr.cell? ⟨w.heap.size, 1, none⟩ = some (.slice A ls.length c) ∧ w.heap.size < wr.heap.size ∧ Below w.heap.size w wr)
          case atStart => exact ⟨0, by omega, rfl, HO.out, HIt.out, q1, hz, HB11.out⟩
          case round =>
            clear HO HIt q1 hz HB11
            obtain ⟨k, hkg, rfl, h1, h2, q1, hz, hbel⟩ := hrel
            have HO := Lib.hid h1
            have HIt := Lib.hid h2
            have HBW := Lib.hid hbel
            clear h1 h2 hbel
            cases gk with
            | zero =>
              obtain rfl : k = tl.length := by omega
              clear hkg
              go_wp2_with fail
              go_ret
              exact ⟨rfl, HBW.out⟩
            | succ g =>
              have hk : k < tl.length := by omega
              have HG := Lib.hid hkg
              clear hkg
              obtain ⟨bt, offt, hAt, hbt, hcc⟩ := HIt.out (by omega)
              subst hAt
              have ek := hcc k hk
              have hm : tl.getD k 0 ∈ tl := by rw [getD_eq _ _ _ hk]; exact List.getElem_mem hk
              obtain ⟨hj0, hj1⟩ := HTB.out.1.2 _ hm
              have hnt := HTB.out.2 _ hm
              have hprev : 0 < k → tl.getD (k - 1) 0 < tl.getD k 0 := fun h0 => by
                rw [getD_eq _ _ _ hk, getD_eq _ _ _ (show k - 1 < tl.length by omega)]
                exact List.pairwise_iff_getElem.1 HTB.out.1.1 _ _ _ _ (by omega)
              obtain ⟨j, hj⟩ : ∃ j : Nat, tl.getD k 0 = (j : Int) := ⟨_, (Int.toNat_of_nonneg hj0).symm⟩
              rw [hj] at ek hj1 hnt hprev
              have hj2 : j < ls.length := by omega
              have i1 : ¬ (j : Int) < 0 := by omega
              have kh := fun W hO => (has16_any O co out (j : Int) W W.heap.size hO (by omega)).mono (fun e w' (h : _ ∧ W = w') => (show e = .returned (.bool false) ∧ Below W.heap.size W w' from ⟨by rw [h.1]; unfold hasB; rw [decide_eq_false hnt], h.2 ▸ Below.refl _ _⟩))
              have KH := Lib.hid kh
              have hep := fun h0 : 0 < k => hcc (k - 1) (by omega)
              clear hcc hm hj0 hj1 hnt kh hj
              by_cases h0 : k = 0
              · have i6 : ¬ 0 < k := by omega
                clear hprev hep h0
                go_wp2_with fail
                refine region_calls (w0 := wr) (fun jq => match jq with | 0 => .slice O out.length co | 1 => .slice (some ⟨bt, offt, none⟩) tl.length ct | 2 => .int .i64 (k : Int) | 3 => .pointer (some ⟨bt, offt + k, none⟩) | 4 => .int .i64 (j : Int) | 5 => .bool false | 6 => .bool false | 7 => .slice (some ⟨bt, offt, none⟩) tl.length ct | 8 => .int .i64 (k : Int) | 9 => .pointer (some ⟨bt, offt + k, none⟩) | 10 => .int .i64 (j : Int) | 11 => .bool false | 12 => .bool false | 13 => .bool false | 14 => .slice (some ⟨bt, offt, none⟩) tl.length ct | 15 => .int .i64 (k : Int) | 16 => .pointer (some ⟨bt, offt + k, none⟩) | 17 => .int .i64 (j : Int) | 18 => .pointer (some ⟨w.heap.size, 1, none⟩) | 19 => .slice A ls.length c | 20 => .int .i64 (ls.length : Int) | 21 => .bool false | 22 => .bool false | 23 => .bool false | 24 => .int .i64 (k : Int) | 25 => .bool false | 26 => .bool false | 27 => undef | 28 => undef | 29 => undef | 30 => undef | 31 => undef | 32 => undef | 33 => undef | 34 => undef | 35 => undef | 36 => undef | 37 => .bool false | 38 => .bool false | _ => undef) (by kernel_rfl) (by kernel_rfl) ?_ ?_
                · intro i o ho a W hI hdep hrest hgd
                  have r1 : a.eval (.tmp 1) = .slice O out.length co := hrest 1 (apart_of (by kernel_rfl))
                  have r2 : a.eval (.tmp 2) = .pointer (some ⟨w.heap.size, 0, none⟩) := hrest 2 (apart_of (by kernel_rfl))
                  have r5 : a.eval (.tmp 5) = .slice (some ⟨bt, offt, none⟩) tl.length ct := hrest 5 (apart_of (by kernel_rfl))
                  have r15 : a.eval (.tmp 15) = .int .i64 (k : Int) := hrest 15 (apart_of (by kernel_rfl))
                  have hc : ∀ v, a.eval (.const v) = v := fun _ => rfl
                  have hfn : ∀ f, a.eval (.func f) = .func (.func f) #[] #[] := fun _ => rfl
                  clear hrest
                  rcases i with _ | _ | _ | _ | _ | _ | _ | _ | _ | _ | _ | _ | _ | _ | _ | _ | _ | _ | _ | _ | _ | _ | _ | _ | _ | _ | _ | _ | _ | _ | _ | _ | _ | _ | _ | _ | _ | _ | _ | i
                  · injection ho with ho
                    subst ho
                    clear hdep hgd
                    refine ⟨fun _ => .inl ?_, fun hw => (by simp [Region.wanted] at hw)⟩
                    clear hI
                    generalize a.eval = ρ at *
                    simp [go_sem, r1]
                  · injection ho with ho
                    subst ho
                    clear hdep hgd
                    refine ⟨fun _ => .inl ?_, fun hw => (by simp [Region.wanted] at hw)⟩
                    clear hI
                    generalize a.eval = ρ at *
                    simp [go_sem, r5]
                  · injection ho with ho
                    subst ho
                    clear hdep hgd
                    refine ⟨fun _ => .inl ?_, fun hw => (by simp [Region.wanted] at hw)⟩
                    clear hI
                    generalize a.eval = ρ at *
                    simp [go_sem, r15]
                  · injection ho with ho
                    subst ho
                    have e1 : a.eval (.tmp 109) = .slice (some ⟨bt, offt, none⟩) tl.length ct := hdep ⟨1, .data⟩ (by simp) rfl _ _ rfl rfl
                    have e2 : a.eval (.tmp 110) = .int .i64 (k : Int) := hdep ⟨2, .data⟩ (by simp) rfl _ _ rfl rfl
                    clear hdep hgd
                    refine ⟨fun _ => .inl ?_, fun hw => (by simp [Region.wanted] at hw)⟩
                    clear hI
                    generalize a.eval = ρ at *
                    simp [go_sem, e1, e2, hk]
                  · injection ho with ho
                    subst ho
                    have e3 : a.eval (.tmp 111) = .pointer (some ⟨bt, offt + k, none⟩) := hdep ⟨3, .data⟩ (by simp) rfl _ _ rfl rfl
                    clear hdep hgd
                    have ek2 := (hI.cell (p := ⟨bt, offt + k, none⟩) hbt).trans ek
                    refine ⟨fun _ => .inl ?_, fun hw => (by simp [Region.wanted] at hw)⟩
                    clear hI
                    generalize a.eval = ρ at *
                    simp [go_sem, e3, ek2]
                  · injection ho with ho
                    subst ho
                    have e0 : a.eval (.tmp 108) = .slice O out.length co := hdep ⟨0, .data⟩ (by simp) rfl _ _ rfl rfl
                    have e4 : a.eval (.tmp 112) = .int .i64 (j : Int) := hdep ⟨4, .data⟩ (by simp) rfl _ _ rfl rfl
                    clear hdep hgd
                    refine ⟨fun _ => .inr ⟨29, #[.slice O out.length co, .int .i64 (j : Int)], ?_, KH.out W (HO.out.upto hI)⟩, fun hw => (by simp [Region.wanted] at hw)⟩
                    clear hI
                    generalize a.eval = ρ at *
                    simp [go_sem, e0, e4, hfn]
                  · injection ho with ho
                    subst ho
                    have e5 : a.eval (.tmp 113) = .bool false := hdep ⟨5, .data⟩ (by simp) rfl _ _ rfl rfl
                    clear hdep hgd
                    refine ⟨fun _ => .inl ?_, fun hw => (by simp [Region.wanted] at hw)⟩
                    clear hI
                    generalize a.eval = ρ at *
                    simp [go_sem, e5]
                  · injection ho with ho
                    subst ho
                    have h8 : a.tmps.getD 114 undef = .bool false := hdep ⟨6, .guard⟩ (by simp) rfl _ _ rfl rfl
                    have hwd := hgd 6 false rfl _ _ rfl rfl false h8
                    clear hdep hgd
                    refine ⟨fun _ => .inl ?_, fun hw => (by rw [hwd] at hw; cases hw)⟩
                    clear h8 hwd
                    clear hI
                    generalize a.eval = ρ at *
                    simp [go_sem, r5]
                  · injection ho with ho
                    subst ho
                    have h8 : a.tmps.getD 114 undef = .bool false := hdep ⟨6, .guard⟩ (by simp) rfl _ _ rfl rfl
                    have hwd := hgd 6 false rfl _ _ rfl rfl false h8
                    clear hdep hgd
                    refine ⟨fun _ => .inl ?_, fun hw => (by rw [hwd] at hw; cases hw)⟩
                    clear h8 hwd
                    clear hI
                    generalize a.eval = ρ at *
                    simp [go_sem, r15]
                  · injection ho with ho
                    subst ho
                    have e7 : a.eval (.tmp 115) = .slice (some ⟨bt, offt, none⟩) tl.length ct := hdep ⟨7, .data⟩ (by simp) rfl _ _ rfl rfl
                    have e8 : a.eval (.tmp 116) = .int .i64 (k : Int) := hdep ⟨8, .data⟩ (by simp) rfl _ _ rfl rfl
                    have h8 : a.tmps.getD 114 undef = .bool false := hdep ⟨6, .guard⟩ (by simp) rfl _ _ rfl rfl
                    have hwd := hgd 6 false rfl _ _ rfl rfl false h8
                    clear hdep hgd
                    refine ⟨fun _ => .inl ?_, fun hw => (by rw [hwd] at hw; cases hw)⟩
                    clear h8 hwd
                    clear hI
                    generalize a.eval = ρ at *
                    simp [go_sem, e7, e8, hk]
                  · injection ho with ho
                    subst ho
                    have e9 : a.eval (.tmp 117) = .pointer (some ⟨bt, offt + k, none⟩) := hdep ⟨9, .data⟩ (by simp) rfl _ _ rfl rfl
                    have h8 : a.tmps.getD 114 undef = .bool false := hdep ⟨6, .guard⟩ (by simp) rfl _ _ rfl rfl
                    have hwd := hgd 6 false rfl _ _ rfl rfl false h8
                    clear hdep hgd
                    have ek2 := (hI.cell (p := ⟨bt, offt + k, none⟩) hbt).trans ek
                    refine ⟨fun _ => .inl ?_, fun hw => (by rw [hwd] at hw; cases hw)⟩
                    clear h8 hwd
                    clear hI
                    generalize a.eval = ρ at *
                    simp [go_sem, e9, ek2]
                  · injection ho with ho
                    subst ho
                    have e10 : a.eval (.tmp 118) = .int .i64 (j : Int) := hdep ⟨10, .data⟩ (by simp) rfl _ _ rfl rfl
                    have h8 : a.tmps.getD 114 undef = .bool false := hdep ⟨6, .guard⟩ (by simp) rfl _ _ rfl rfl
                    have hwd := hgd 6 false rfl _ _ rfl rfl false h8
                    clear hdep hgd
                    refine ⟨fun _ => .inl ?_, fun hw => (by rw [hwd] at hw; cases hw)⟩
                    clear h8 hwd
                    clear hI
                    generalize a.eval = ρ at *
                    simp [go_sem, e10, i1, hc]
                  · injection ho with ho
                    subst ho
                    have e6 : a.eval (.tmp 114) = .bool false := hdep ⟨6, .data⟩ (by simp) rfl _ _ rfl rfl
                    have e11 : a.eval (.tmp 119) = .bool false := hdep ⟨11, .data⟩ (by simp) rfl _ _ rfl rfl
                    clear hdep hgd
                    refine ⟨fun _ => .inl ?_, fun hw => (by simp [Region.wanted] at hw)⟩
                    clear hI
                    generalize a.eval = ρ at *
                    simp [go_sem, e6, e11, hc]
                  · injection ho with ho
                    subst ho
                    have e12 : a.eval (.tmp 120) = .bool false := hdep ⟨12, .data⟩ (by simp) rfl _ _ rfl rfl
                    clear hdep hgd
                    refine ⟨fun _ => .inl ?_, fun hw => (by simp [Region.wanted] at hw)⟩
                    clear hI
                    generalize a.eval = ρ at *
                    simp [go_sem, e12]
                  · injection ho with ho
                    subst ho
                    have h8 : a.tmps.getD 121 undef = .bool false := hdep ⟨13, .guard⟩ (by simp) rfl _ _ rfl rfl
                    have hwd := hgd 13 false rfl _ _ rfl rfl false h8
                    clear hdep hgd
                    refine ⟨fun _ => .inl ?_, fun hw => (by rw [hwd] at hw; cases hw)⟩
                    clear h8 hwd
                    clear hI
                    generalize a.eval = ρ at *
                    simp [go_sem, r5]
                  · injection ho with ho
                    subst ho
                    have h8 : a.tmps.getD 121 undef = .bool false := hdep ⟨13, .guard⟩ (by simp) rfl _ _ rfl rfl
                    have hwd := hgd 13 false rfl _ _ rfl rfl false h8
                    clear hdep hgd
                    refine ⟨fun _ => .inl ?_, fun hw => (by rw [hwd] at hw; cases hw)⟩
                    clear h8 hwd
                    clear hI
                    generalize a.eval = ρ at *
                    simp [go_sem, r15]
                  · injection ho with ho
                    subst ho
                    have e14 : a.eval (.tmp 122) = .slice (some ⟨bt, offt, none⟩) tl.length ct := hdep ⟨14, .data⟩ (by simp) rfl _ _ rfl rfl
                    have e15 : a.eval (.tmp 123) = .int .i64 (k : Int) := hdep ⟨15, .data⟩ (by simp) rfl _ _ rfl rfl
                    have h8 : a.tmps.getD 121 undef = .bool false := hdep ⟨13, .guard⟩ (by simp) rfl _ _ rfl rfl
                    have hwd := hgd 13 false rfl _ _ rfl rfl false h8
                    clear hdep hgd
                    refine ⟨fun _ => .inl ?_, fun hw => (by rw [hwd] at hw; cases hw)⟩
                    clear h8 hwd
                    clear hI
                    generalize a.eval = ρ at *
                    simp [go_sem, e14, e15, hk]
                  · injection ho with ho
                    subst ho
                    have e16 : a.eval (.tmp 124) = .pointer (some ⟨bt, offt + k, none⟩) := hdep ⟨16, .data⟩ (by simp) rfl _ _ rfl rfl
                    have h8 : a.tmps.getD 121 undef = .bool false := hdep ⟨13, .guard⟩ (by simp) rfl _ _ rfl rfl
                    have hwd := hgd 13 false rfl _ _ rfl rfl false h8
                    clear hdep hgd
                    have ek2 := (hI.cell (p := ⟨bt, offt + k, none⟩) hbt).trans ek
                    refine ⟨fun _ => .inl ?_, fun hw => (by rw [hwd] at hw; cases hw)⟩
                    clear h8 hwd
                    clear hI
                    generalize a.eval = ρ at *
                    simp [go_sem, e16, ek2]
                  · injection ho with ho
                    subst ho
                    have h8 : a.tmps.getD 121 undef = .bool false := hdep ⟨13, .guard⟩ (by simp) rfl _ _ rfl rfl
                    have hwd := hgd 13 false rfl _ _ rfl rfl false h8
                    clear hdep hgd
                    refine ⟨fun _ => .inl ?_, fun hw => (by rw [hwd] at hw; cases hw)⟩
                    clear h8 hwd
                    clear hI
                    generalize a.eval = ρ at *
                    simp [go_sem, r2]
                  · injection ho with ho
                    subst ho
                    have e18 : a.eval (.tmp 126) = .pointer (some ⟨w.heap.size, 1, none⟩) := hdep ⟨18, .data⟩ (by simp) rfl _ _ rfl rfl
                    have h8 : a.tmps.getD 121 undef = .bool false := hdep ⟨13, .guard⟩ (by simp) rfl _ _ rfl rfl
                    have hwd := hgd 13 false rfl _ _ rfl rfl false h8
                    clear hdep hgd
                    have x1 := (hI.cell (p := ⟨w.heap.size, 1, none⟩) hz).trans q1
                    refine ⟨fun _ => .inl ?_, fun hw => (by rw [hwd] at hw; cases hw)⟩
                    clear h8 hwd
                    clear hI
                    generalize a.eval = ρ at *
                    simp [go_sem, e18, x1]
                  · injection ho with ho
                    subst ho
                    have e19 : a.eval (.tmp 127) = .slice A ls.length c := hdep ⟨19, .data⟩ (by simp) rfl _ _ rfl rfl
                    have h8 : a.tmps.getD 121 undef = .bool false := hdep ⟨13, .guard⟩ (by simp) rfl _ _ rfl rfl
                    have hwd := hgd 13 false rfl _ _ rfl rfl false h8
                    clear hdep hgd
                    refine ⟨fun _ => .inl ?_, fun hw => (by rw [hwd] at hw; cases hw)⟩
                    clear h8 hwd
                    clear hI
                    generalize a.eval = ρ at *
                    simp [go_sem, e19]
                  · injection ho with ho
                    subst ho
                    have e17 : a.eval (.tmp 125) = .int .i64 (j : Int) := hdep ⟨17, .data⟩ (by simp) rfl _ _ rfl rfl
                    have e20 : a.eval (.tmp 128) = .int .i64 (ls.length : Int) := hdep ⟨20, .data⟩ (by simp) rfl _ _ rfl rfl
                    have h8 : a.tmps.getD 121 undef = .bool false := hdep ⟨13, .guard⟩ (by simp) rfl _ _ rfl rfl
                    have hwd := hgd 13 false rfl _ _ rfl rfl false h8
                    clear hdep hgd
                    refine ⟨fun _ => .inl ?_, fun hw => (by rw [hwd] at hw; cases hw)⟩
                    clear h8 hwd
                    clear hI
                    generalize a.eval = ρ at *
                    simp [go_sem, e17, e20, hj2]
                  · injection ho with ho
                    subst ho
                    have e13 : a.eval (.tmp 121) = .bool false := hdep ⟨13, .data⟩ (by simp) rfl _ _ rfl rfl
                    have e21 : a.eval (.tmp 129) = .bool false := hdep ⟨21, .data⟩ (by simp) rfl _ _ rfl rfl
                    clear hdep hgd
                    refine ⟨fun _ => .inl ?_, fun hw => (by simp [Region.wanted] at hw)⟩
                    clear hI
                    generalize a.eval = ρ at *
                    simp [go_sem, e13, e21, hc]
                  · injection ho with ho
                    subst ho
                    have e22 : a.eval (.tmp 130) = .bool false := hdep ⟨22, .data⟩ (by simp) rfl _ _ rfl rfl
                    clear hdep hgd
                    refine ⟨fun _ => .inl ?_, fun hw => (by simp [Region.wanted] at hw)⟩
                    clear hI
                    generalize a.eval = ρ at *
                    simp [go_sem, e22]
                  · injection ho with ho
                    subst ho
                    have h8 : a.tmps.getD 131 undef = .bool false := hdep ⟨23, .guard⟩ (by simp) rfl _ _ rfl rfl
                    have hwd := hgd 23 false rfl _ _ rfl rfl false h8
                    clear hdep hgd
                    refine ⟨fun _ => .inl ?_, fun hw => (by rw [hwd] at hw; cases hw)⟩
                    clear h8 hwd
                    clear hI
                    generalize a.eval = ρ at *
                    simp [go_sem, r15]
                  · injection ho with ho
                    subst ho
                    have e24 : a.eval (.tmp 132) = .int .i64 (k : Int) := hdep ⟨24, .data⟩ (by simp) rfl _ _ rfl rfl
                    have h8 : a.tmps.getD 131 undef = .bool false := hdep ⟨23, .guard⟩ (by simp) rfl _ _ rfl rfl
                    have hwd := hgd 23 false rfl _ _ rfl rfl false h8
                    clear hdep hgd
                    refine ⟨fun _ => .inl ?_, fun hw => (by rw [hwd] at hw; cases hw)⟩
                    clear h8 hwd
                    clear hI
                    generalize a.eval = ρ at *
                    simp [go_sem, e24, i6, hc]
                  · injection ho with ho
                    subst ho
                    have e25 : a.eval (.tmp 133) = .bool false := hdep ⟨25, .data⟩ (by simp) rfl _ _ rfl rfl
                    have h8 : a.tmps.getD 131 undef = .bool false := hdep ⟨23, .guard⟩ (by simp) rfl _ _ rfl rfl
                    have hwd := hgd 23 false rfl _ _ rfl rfl false h8
                    clear hdep hgd
                    refine ⟨fun _ => .inl ?_, fun hw => (by rw [hwd] at hw; cases hw)⟩
                    clear h8 hwd
                    clear hI
                    generalize a.eval = ρ at *
                    simp [go_sem, e25]
                  · injection ho with ho
                    subst ho
                    have h8 : a.tmps.getD 134 undef = .bool false := hdep ⟨26, .guard⟩ (by simp) rfl _ _ rfl rfl
                    have hwd := hgd 26 true rfl _ _ rfl rfl false h8
                    exact ⟨fun hw => (by rw [hwd] at hw; cases hw), fun _ => rfl⟩
                  · injection ho with ho
                    subst ho
                    have h8 : a.tmps.getD 134 undef = .bool false := hdep ⟨26, .guard⟩ (by simp) rfl _ _ rfl rfl
                    have hwd := hgd 26 true rfl _ _ rfl rfl false h8
                    exact ⟨fun hw => (by rw [hwd] at hw; cases hw), fun _ => rfl⟩
                  · injection ho with ho
                    subst ho
                    have e27 : a.eval (.tmp 135) = undef := hdep ⟨27, .data⟩ (by simp) rfl _ _ rfl rfl
                    have e28 : a.eval (.tmp 136) = undef := hdep ⟨28, .data⟩ (by simp) rfl _ _ rfl rfl
                    have h8 : a.tmps.getD 134 undef = .bool false := hdep ⟨26, .guard⟩ (by simp) rfl _ _ rfl rfl
                    have hwd := hgd 26 true rfl _ _ rfl rfl false h8
                    exact ⟨fun hw => (by rw [hwd] at hw; cases hw), fun _ => rfl⟩
                  · injection ho with ho
                    subst ho
                    have e29 : a.eval (.tmp 137) = undef := hdep ⟨29, .data⟩ (by simp) rfl _ _ rfl rfl
                    have h8 : a.tmps.getD 134 undef = .bool false := hdep ⟨26, .guard⟩ (by simp) rfl _ _ rfl rfl
                    have hwd := hgd 26 true rfl _ _ rfl rfl false h8
                    exact ⟨fun hw => (by rw [hwd] at hw; cases hw), fun _ => rfl⟩
                  · injection ho with ho
                    subst ho
                    have h8 : a.tmps.getD 134 undef = .bool false := hdep ⟨26, .guard⟩ (by simp) rfl _ _ rfl rfl
                    have hwd := hgd 26 true rfl _ _ rfl rfl false h8
                    exact ⟨fun hw => (by rw [hwd] at hw; cases hw), fun _ => rfl⟩
                  · injection ho with ho
                    subst ho
                    have h8 : a.tmps.getD 134 undef = .bool false := hdep ⟨26, .guard⟩ (by simp) rfl _ _ rfl rfl
                    have hwd := hgd 26 true rfl _ _ rfl rfl false h8
                    exact ⟨fun hw => (by rw [hwd] at hw; cases hw), fun _ => rfl⟩
                  · injection ho with ho
                    subst ho
                    have e32 : a.eval (.tmp 140) = undef := hdep ⟨32, .data⟩ (by simp) rfl _ _ rfl rfl
                    have h8 : a.tmps.getD 134 undef = .bool false := hdep ⟨26, .guard⟩ (by simp) rfl _ _ rfl rfl
                    have hwd := hgd 26 true rfl _ _ rfl rfl false h8
                    exact ⟨fun hw => (by rw [hwd] at hw; cases hw), fun _ => rfl⟩
                  · injection ho with ho
                    subst ho
                    have e31 : a.eval (.tmp 139) = undef := hdep ⟨31, .data⟩ (by simp) rfl _ _ rfl rfl
                    have e33 : a.eval (.tmp 141) = undef := hdep ⟨33, .data⟩ (by simp) rfl _ _ rfl rfl
                    have h8 : a.tmps.getD 134 undef = .bool false := hdep ⟨26, .guard⟩ (by simp) rfl _ _ rfl rfl
                    have hwd := hgd 26 true rfl _ _ rfl rfl false h8
                    exact ⟨fun hw => (by rw [hwd] at hw; cases hw), fun _ => rfl⟩
                  · injection ho with ho
                    subst ho
                    have e34 : a.eval (.tmp 142) = undef := hdep ⟨34, .data⟩ (by simp) rfl _ _ rfl rfl
                    have h8 : a.tmps.getD 134 undef = .bool false := hdep ⟨26, .guard⟩ (by simp) rfl _ _ rfl rfl
                    have hwd := hgd 26 true rfl _ _ rfl rfl false h8
                    exact ⟨fun hw => (by rw [hwd] at hw; cases hw), fun _ => rfl⟩
                  · injection ho with ho
                    subst ho
                    have e30 : a.eval (.tmp 138) = undef := hdep ⟨30, .data⟩ (by simp) rfl _ _ rfl rfl
                    have e35 : a.eval (.tmp 143) = undef := hdep ⟨35, .data⟩ (by simp) rfl _ _ rfl rfl
                    have h8 : a.tmps.getD 134 undef = .bool false := hdep ⟨26, .guard⟩ (by simp) rfl _ _ rfl rfl
                    have hwd := hgd 26 true rfl _ _ rfl rfl false h8
                    exact ⟨fun hw => (by rw [hwd] at hw; cases hw), fun _ => rfl⟩
                  · injection ho with ho
                    subst ho
                    have e26 : a.eval (.tmp 134) = .bool false := hdep ⟨26, .data⟩ (by simp) rfl _ _ rfl rfl
                    have h8 : a.tmps.getD 131 undef = .bool false := hdep ⟨23, .guard⟩ (by simp) rfl _ _ rfl rfl
                    have hwd := hgd 23 false rfl _ _ rfl rfl false h8
                    clear hdep hgd
                    refine ⟨fun _ => .inl ?_, fun hw => (by rw [hwd] at hw; cases hw)⟩
                    clear h8 hwd
                    clear hI
                    generalize a.eval = ρ at *
                    simp [go_sem, e26, hc]
                  · injection ho with ho
                    subst ho
                    have e23 : a.eval (.tmp 131) = .bool false := hdep ⟨23, .data⟩ (by simp) rfl _ _ rfl rfl
                    have e37 : a.eval (.tmp 145) = .bool false := hdep ⟨37, .data⟩ (by simp) rfl _ _ rfl rfl
                    clear hdep hgd
                    refine ⟨fun _ => .inl ?_, fun hw => (by simp [Region.wanted] at hw)⟩
                    clear hI
                    generalize a.eval = ρ at *
                    simp [go_sem, e23, e37, hc]
                  · simp at ho
                intro wx hb
                simp only [putAll, Act.put, List.setIfInBounds_toArray, List.set_cons_zero, List.set_cons_succ, Nat.reduceAdd]
                go_wp2_with fail
                go_roundg g
                case measure => omega
                case rel =>
                  have hs := hb.size
                  exact ⟨k + 1, by have := HG.out; omega, by go_num, HO.out.upto hb, HIt.out.upto hb, (hb.cell (p := ⟨w.heap.size, 1, none⟩) hz).trans q1, by omega, HBW.out.trans (hb.mono HBW.out.size)⟩
              · have i6 : 0 < k := by omega
                have ep := hep i6
                have hlt := hprev i6
                have i7 : ¬ (j : Int) ≤ tl.getD (k - 1) 0 := by omega
                have e1 : ((k : Int) - 1).toNat = k - 1 := by omega
                have e2 : IntKind.i64.wrap ((k : Int) - 1) = (k : Int) - 1 := IntWalk.i64_in _ (by omega)
                have e4 : (k : Int) - 1 < (tl.length : Int) := by omega
                have e5 : ¬ (k : Int) < 1 := by omega
                clear hprev hlt hep
                generalize tl.getD (k - 1) 0 = y at *
                go_wp2_with fail
                refine region_calls (w0 := wr) (fun jq => match jq with | 0 => .slice O out.length co | 1 => .slice (some ⟨bt, offt, none⟩) tl.length ct | 2 => .int .i64 (k : Int) | 3 => .pointer (some ⟨bt, offt + k, none⟩) | 4 => .int .i64 (j : Int) | 5 => .bool false | 6 => .bool false | 7 => .slice (some ⟨bt, offt, none⟩) tl.length ct | 8 => .int .i64 (k : Int) | 9 => .pointer (some ⟨bt, offt + k, none⟩) | 10 => .int .i64 (j : Int) | 11 => .bool false | 12 => .bool false | 13 => .bool false | 14 => .slice (some ⟨bt, offt, none⟩) tl.length ct | 15 => .int .i64 (k : Int) | 16 => .pointer (some ⟨bt, offt + k, none⟩) | 17 => .int .i64 (j : Int) | 18 => .pointer (some ⟨w.heap.size, 1, none⟩) | 19 => .slice A ls.length c | 20 => .int .i64 (ls.length : Int) | 21 => .bool false | 22 => .bool false | 23 => .bool false | 24 => .int .i64 (k : Int) | 25 => .bool true | 26 => .bool true | 27 => .slice (some ⟨bt, offt, none⟩) tl.length ct | 28 => .int .i64 (k : Int) | 29 => .pointer (some ⟨bt, offt + k, none⟩) | 30 => .int .i64 (j : Int) | 31 => .slice (some ⟨bt, offt, none⟩) tl.length ct | 32 => .int .i64 (k : Int) | 33 => .int .i64 ((k : Int) - 1) | 34 => .pointer (some ⟨bt, offt + (k - 1), none⟩) | 35 => .int .i64 y | 36 => .bool false | 37 => .bool false | 38 => .bool false | _ => undef) (by kernel_rfl) (by kernel_rfl) ?_ ?_
                · intro i o ho a W hI hdep hrest hgd
                  have r1 : a.eval (.tmp 1) = .slice O out.length co := hrest 1 (apart_of (by kernel_rfl))
                  have r2 : a.eval (.tmp 2) = .pointer (some ⟨w.heap.size, 0, none⟩) := hrest 2 (apart_of (by kernel_rfl))
                  have r5 : a.eval (.tmp 5) = .slice (some ⟨bt, offt, none⟩) tl.length ct := hrest 5 (apart_of (by kernel_rfl))
                  have r15 : a.eval (.tmp 15) = .int .i64 (k : Int) := hrest 15 (apart_of (by kernel_rfl))
                  have hc : ∀ v, a.eval (.const v) = v := fun _ => rfl
                  have hfn : ∀ f, a.eval (.func f) = .func (.func f) #[] #[] := fun _ => rfl
                  clear hrest
                  rcases i with _ | _ | _ | _ | _ | _ | _ | _ | _ | _ | _ | _ | _ | _ | _ | _ | _ | _ | _ | _ | _ | _ | _ | _ | _ | _ | _ | _ | _ | _ | _ | _ | _ | _ | _ | _ | _ | _ | _ | i
                  · injection ho with ho
                    subst ho
                    clear hdep hgd
                    refine ⟨fun _ => .inl ?_, fun hw => (by simp [Region.wanted] at hw)⟩
                    clear hI
                    generalize a.eval = ρ at *
                    simp [go_sem, r1]
                  · injection ho with ho
                    subst ho
                    clear hdep hgd
                    refine ⟨fun _ => .inl ?_, fun hw => (by simp [Region.wanted] at hw)⟩
                    clear hI
                    generalize a.eval = ρ at *
                    simp [go_sem, r5]
                  · injection ho with ho
                    subst ho
                    clear hdep hgd
                    refine ⟨fun _ => .inl ?_, fun hw => (by simp [Region.wanted] at hw)⟩
                    clear hI
                    generalize a.eval = ρ at *
                    simp [go_sem, r15]
                  · injection ho with ho
                    subst ho
                    have e1 : a.eval (.tmp 109) = .slice (some ⟨bt, offt, none⟩) tl.length ct := hdep ⟨1, .data⟩ (by simp) rfl _ _ rfl rfl
                    have e2 : a.eval (.tmp 110) = .int .i64 (k : Int) := hdep ⟨2, .data⟩ (by simp) rfl _ _ rfl rfl
                    clear hdep hgd
                    refine ⟨fun _ => .inl ?_, fun hw => (by simp [Region.wanted] at hw)⟩
                    clear hI
                    generalize a.eval = ρ at *
                    simp [go_sem, e1, e2, hk]
                  · injection ho with ho
                    subst ho
                    have e3 : a.eval (.tmp 111) = .pointer (some ⟨bt, offt + k, none⟩) := hdep ⟨3, .data⟩ (by simp) rfl _ _ rfl rfl
                    clear hdep hgd
                    have ek2 := (hI.cell (p := ⟨bt, offt + k, none⟩) hbt).trans ek
                    refine ⟨fun _ => .inl ?_, fun hw => (by simp [Region.wanted] at hw)⟩
                    clear hI
                    generalize a.eval = ρ at *
                    simp [go_sem, e3, ek2]
                  · injection ho with ho
                    subst ho
                    have e0 : a.eval (.tmp 108) = .slice O out.length co := hdep ⟨0, .data⟩ (by simp) rfl _ _ rfl rfl
                    have e4 : a.eval (.tmp 112) = .int .i64 (j : Int) := hdep ⟨4, .data⟩ (by simp) rfl _ _ rfl rfl
                    clear hdep hgd
                    refine ⟨fun _ => .inr ⟨29, #[.slice O out.length co, .int .i64 (j : Int)], ?_, KH.out W (HO.out.upto hI)⟩, fun hw => (by simp [Region.wanted] at hw)⟩
                    clear hI
                    generalize a.eval = ρ at *
                    simp [go_sem, e0, e4, hfn]
                  · injection ho with ho
                    subst ho
                    have e5 : a.eval (.tmp 113) = .bool false := hdep ⟨5, .data⟩ (by simp) rfl _ _ rfl rfl
                    clear hdep hgd
                    refine ⟨fun _ => .inl ?_, fun hw => (by simp [Region.wanted] at hw)⟩
                    clear hI
                    generalize a.eval = ρ at *
                    simp [go_sem, e5]
                  · injection ho with ho
                    subst ho
                    have h8 : a.tmps.getD 114 undef = .bool false := hdep ⟨6, .guard⟩ (by simp) rfl _ _ rfl rfl
                    have hwd := hgd 6 false rfl _ _ rfl rfl false h8
                    clear hdep hgd
                    refine ⟨fun _ => .inl ?_, fun hw => (by rw [hwd] at hw; cases hw)⟩
                    clear h8 hwd
                    clear hI
                    generalize a.eval = ρ at *
                    simp [go_sem, r5]
                  · injection ho with ho
                    subst ho
                    have h8 : a.tmps.getD 114 undef = .bool false := hdep ⟨6, .guard⟩ (by simp) rfl _ _ rfl rfl
                    have hwd := hgd 6 false rfl _ _ rfl rfl false h8
                    clear hdep hgd
                    refine ⟨fun _ => .inl ?_, fun hw => (by rw [hwd] at hw; cases hw)⟩
                    clear h8 hwd
                    clear hI
                    generalize a.eval = ρ at *
                    simp [go_sem, r15]
                  · injection ho with ho
                    subst ho
                    have e7 : a.eval (.tmp 115) = .slice (some ⟨bt, offt, none⟩) tl.length ct := hdep ⟨7, .data⟩ (by simp) rfl _ _ rfl rfl
                    have e8 : a.eval (.tmp 116) = .int .i64 (k : Int) := hdep ⟨8, .data⟩ (by simp) rfl _ _ rfl rfl
                    have h8 : a.tmps.getD 114 undef = .bool false := hdep ⟨6, .guard⟩ (by simp) rfl _ _ rfl rfl
                    have hwd := hgd 6 false rfl _ _ rfl rfl false h8
                    clear hdep hgd
                    refine ⟨fun _ => .inl ?_, fun hw => (by rw [hwd] at hw; cases hw)⟩
                    clear h8 hwd
                    clear hI
                    generalize a.eval = ρ at *
                    simp [go_sem, e7, e8, hk]
                  · injection ho with ho
                    subst ho
                    have e9 : a.eval (.tmp 117) = .pointer (some ⟨bt, offt + k, none⟩) := hdep ⟨9, .data⟩ (by simp) rfl _ _ rfl rfl
                    have h8 : a.tmps.getD 114 undef = .bool false := hdep ⟨6, .guard⟩ (by simp) rfl _ _ rfl rfl
                    have hwd := hgd 6 false rfl _ _ rfl rfl false h8
                    clear hdep hgd
                    have ek2 := (hI.cell (p := ⟨bt, offt + k, none⟩) hbt).trans ek
                    refine ⟨fun _ => .inl ?_, fun hw => (by rw [hwd] at hw; cases hw)⟩
                    clear h8 hwd
                    clear hI
                    generalize a.eval = ρ at *
                    simp [go_sem, e9, ek2]
                  · injection ho with ho
                    subst ho
                    have e10 : a.eval (.tmp 118) = .int .i64 (j : Int) := hdep ⟨10, .data⟩ (by simp) rfl _ _ rfl rfl
                    have h8 : a.tmps.getD 114 undef = .bool false := hdep ⟨6, .guard⟩ (by simp) rfl _ _ rfl rfl
                    have hwd := hgd 6 false rfl _ _ rfl rfl false h8
                    clear hdep hgd
                    refine ⟨fun _ => .inl ?_, fun hw => (by rw [hwd] at hw; cases hw)⟩
                    clear h8 hwd
                    clear hI
                    generalize a.eval = ρ at *
                    simp [go_sem, e10, i1, hc]
                  · injection ho with ho
                    subst ho
                    have e6 : a.eval (.tmp 114) = .bool false := hdep ⟨6, .data⟩ (by simp) rfl _ _ rfl rfl
                    have e11 : a.eval (.tmp 119) = .bool false := hdep ⟨11, .data⟩ (by simp) rfl _ _ rfl rfl
                    clear hdep hgd
                    refine ⟨fun _ => .inl ?_, fun hw => (by simp [Region.wanted] at hw)⟩
                    clear hI
                    generalize a.eval = ρ at *
                    simp [go_sem, e6, e11, hc]
                  · injection ho with ho
                    subst ho
                    have e12 : a.eval (.tmp 120) = .bool false := hdep ⟨12, .data⟩ (by simp) rfl _ _ rfl rfl
                    clear hdep hgd
                    refine ⟨fun _ => .inl ?_, fun hw => (by simp [Region.wanted] at hw)⟩
                    clear hI
                    generalize a.eval = ρ at *
                    simp [go_sem, e12]
                  · injection ho with ho
                    subst ho
                    have h8 : a.tmps.getD 121 undef = .bool false := hdep ⟨13, .guard⟩ (by simp) rfl _ _ rfl rfl
                    have hwd := hgd 13 false rfl _ _ rfl rfl false h8
                    clear hdep hgd
                    refine ⟨fun _ => .inl ?_, fun hw => (by rw [hwd] at hw; cases hw)⟩
                    clear h8 hwd
                    clear hI
                    generalize a.eval = ρ at *
                    simp [go_sem, r5]
                  · injection ho with ho
                    subst ho
                    have h8 : a.tmps.getD 121 undef = .bool false := hdep ⟨13, .guard⟩ (by simp) rfl _ _ rfl rfl
                    have hwd := hgd 13 false rfl _ _ rfl rfl false h8
                    clear hdep hgd
                    refine ⟨fun _ => .inl ?_, fun hw => (by rw [hwd] at hw; cases hw)⟩
                    clear h8 hwd
                    clear hI
                    generalize a.eval = ρ at *
                    simp [go_sem, r15]
                  · injection ho with ho
                    subst ho
                    have e14 : a.eval (.tmp 122) = .slice (some ⟨bt, offt, none⟩) tl.length ct := hdep ⟨14, .data⟩ (by simp) rfl _ _ rfl rfl
                    have e15 : a.eval (.tmp 123) = .int .i64 (k : Int) := hdep ⟨15, .data⟩ (by simp) rfl _ _ rfl rfl
                    have h8 : a.tmps.getD 121 undef = .bool false := hdep ⟨13, .guard⟩ (by simp) rfl _ _ rfl rfl
                    have hwd := hgd 13 false rfl _ _ rfl rfl false h8
                    clear hdep hgd
                    refine ⟨fun _ => .inl ?_, fun hw => (by rw [hwd] at hw; cases hw)⟩
                    clear h8 hwd
                    clear hI
                    generalize a.eval = ρ at *
                    simp [go_sem, e14, e15, hk]
                  · injection ho with ho
                    subst ho
                    have e16 : a.eval (.tmp 124) = .pointer (some ⟨bt, offt + k, none⟩) := hdep ⟨16, .data⟩ (by simp) rfl _ _ rfl rfl
                    have h8 : a.tmps.getD 121 undef = .bool false := hdep ⟨13, .guard⟩ (by simp) rfl _ _ rfl rfl
                    have hwd := hgd 13 false rfl _ _ rfl rfl false h8
                    clear hdep hgd
                    have ek2 := (hI.cell (p := ⟨bt, offt + k, none⟩) hbt).trans ek
                    refine ⟨fun _ => .inl ?_, fun hw => (by rw [hwd] at hw; cases hw)⟩
                    clear h8 hwd
                    clear hI
                    generalize a.eval = ρ at *
                    simp [go_sem, e16, ek2]
                  · injection ho with ho
                    subst ho
                    have h8 : a.tmps.getD 121 undef = .bool false := hdep ⟨13, .guard⟩ (by simp) rfl _ _ rfl rfl
                    have hwd := hgd 13 false rfl _ _ rfl rfl false h8
                    clear hdep hgd
                    refine ⟨fun _ => .inl ?_, fun hw => (by rw [hwd] at hw; cases hw)⟩
                    clear h8 hwd
                    clear hI
                    generalize a.eval = ρ at *
                    simp [go_sem, r2]
                  · injection ho with ho
                    subst ho
                    have e18 : a.eval (.tmp 126) = .pointer (some ⟨w.heap.size, 1, none⟩) := hdep ⟨18, .data⟩ (by simp) rfl _ _ rfl rfl
                    have h8 : a.tmps.getD 121 undef = .bool false := hdep ⟨13, .guard⟩ (by simp) rfl _ _ rfl rfl
                    have hwd := hgd 13 false rfl _ _ rfl rfl false h8
                    clear hdep hgd
                    have x1 := (hI.cell (p := ⟨w.heap.size, 1, none⟩) hz).trans q1
                    refine ⟨fun _ => .inl ?_, fun hw => (by rw [hwd] at hw; cases hw)⟩
                    clear h8 hwd
                    clear hI
                    generalize a.eval = ρ at *
                    simp [go_sem, e18, x1]
                  · injection ho with ho
                    subst ho
                    have e19 : a.eval (.tmp 127) = .slice A ls.length c := hdep ⟨19, .data⟩ (by simp) rfl _ _ rfl rfl
                    have h8 : a.tmps.getD 121 undef = .bool false := hdep ⟨13, .guard⟩ (by simp) rfl _ _ rfl rfl
                    have hwd := hgd 13 false rfl _ _ rfl rfl false h8
                    clear hdep hgd
                    refine ⟨fun _ => .inl ?_, fun hw => (by rw [hwd] at hw; cases hw)⟩
                    clear h8 hwd
                    clear hI
                    generalize a.eval = ρ at *
                    simp [go_sem, e19]
                  · injection ho with ho
                    subst ho
                    have e17 : a.eval (.tmp 125) = .int .i64 (j : Int) := hdep ⟨17, .data⟩ (by simp) rfl _ _ rfl rfl
                    have e20 : a.eval (.tmp 128) = .int .i64 (ls.length : Int) := hdep ⟨20, .data⟩ (by simp) rfl _ _ rfl rfl
                    have h8 : a.tmps.getD 121 undef = .bool false := hdep ⟨13, .guard⟩ (by simp) rfl _ _ rfl rfl
                    have hwd := hgd 13 false rfl _ _ rfl rfl false h8
                    clear hdep hgd
                    refine ⟨fun _ => .inl ?_, fun hw => (by rw [hwd] at hw; cases hw)⟩
                    clear h8 hwd
                    clear hI
                    generalize a.eval = ρ at *
                    simp [go_sem, e17, e20, hj2]
                  · injection ho with ho
                    subst ho
                    have e13 : a.eval (.tmp 121) = .bool false := hdep ⟨13, .data⟩ (by simp) rfl _ _ rfl rfl
                    have e21 : a.eval (.tmp 129) = .bool false := hdep ⟨21, .data⟩ (by simp) rfl _ _ rfl rfl
                    clear hdep hgd
                    refine ⟨fun _ => .inl ?_, fun hw => (by simp [Region.wanted] at hw)⟩
                    clear hI
                    generalize a.eval = ρ at *
                    simp [go_sem, e13, e21, hc]
                  · injection ho with ho
                    subst ho
                    have e22 : a.eval (.tmp 130) = .bool false := hdep ⟨22, .data⟩ (by simp) rfl _ _ rfl rfl
                    clear hdep hgd
                    refine ⟨fun _ => .inl ?_, fun hw => (by simp [Region.wanted] at hw)⟩
                    clear hI
                    generalize a.eval = ρ at *
                    simp [go_sem, e22]
                  · injection ho with ho
                    subst ho
                    have h8 : a.tmps.getD 131 undef = .bool false := hdep ⟨23, .guard⟩ (by simp) rfl _ _ rfl rfl
                    have hwd := hgd 23 false rfl _ _ rfl rfl false h8
                    clear hdep hgd
                    refine ⟨fun _ => .inl ?_, fun hw => (by rw [hwd] at hw; cases hw)⟩
                    clear h8 hwd
                    clear hI
                    generalize a.eval = ρ at *
                    simp [go_sem, r15]
                  · injection ho with ho
                    subst ho
                    have e24 : a.eval (.tmp 132) = .int .i64 (k : Int) := hdep ⟨24, .data⟩ (by simp) rfl _ _ rfl rfl
                    have h8 : a.tmps.getD 131 undef = .bool false := hdep ⟨23, .guard⟩ (by simp) rfl _ _ rfl rfl
                    have hwd := hgd 23 false rfl _ _ rfl rfl false h8
                    clear hdep hgd
                    refine ⟨fun _ => .inl ?_, fun hw => (by rw [hwd] at hw; cases hw)⟩
                    clear h8 hwd
                    clear hI
                    generalize a.eval = ρ at *
                    simp [go_sem, e24, i6, hc]
                  · injection ho with ho
                    subst ho
                    have e25 : a.eval (.tmp 133) = .bool true := hdep ⟨25, .data⟩ (by simp) rfl _ _ rfl rfl
                    have h8 : a.tmps.getD 131 undef = .bool false := hdep ⟨23, .guard⟩ (by simp) rfl _ _ rfl rfl
                    have hwd := hgd 23 false rfl _ _ rfl rfl false h8
                    clear hdep hgd
                    refine ⟨fun _ => .inl ?_, fun hw => (by rw [hwd] at hw; cases hw)⟩
                    clear h8 hwd
                    clear hI
                    generalize a.eval = ρ at *
                    simp [go_sem, e25]
                  · injection ho with ho
                    subst ho
                    have h8 : a.tmps.getD 134 undef = .bool true := hdep ⟨26, .guard⟩ (by simp) rfl _ _ rfl rfl
                    have hwd := hgd 26 true rfl _ _ rfl rfl true h8
                    clear hdep hgd
                    refine ⟨fun _ => .inl ?_, fun hw => (by rw [hwd] at hw; cases hw)⟩
                    clear h8 hwd
                    clear hI
                    generalize a.eval = ρ at *
                    simp [go_sem, r5]
                  · injection ho with ho
                    subst ho
                    have h8 : a.tmps.getD 134 undef = .bool true := hdep ⟨26, .guard⟩ (by simp) rfl _ _ rfl rfl
                    have hwd := hgd 26 true rfl _ _ rfl rfl true h8
                    clear hdep hgd
                    refine ⟨fun _ => .inl ?_, fun hw => (by rw [hwd] at hw; cases hw)⟩
                    clear h8 hwd
                    clear hI
                    generalize a.eval = ρ at *
                    simp [go_sem, r15]
                  · injection ho with ho
                    subst ho
                    have e27 : a.eval (.tmp 135) = .slice (some ⟨bt, offt, none⟩) tl.length ct := hdep ⟨27, .data⟩ (by simp) rfl _ _ rfl rfl
                    have e28 : a.eval (.tmp 136) = .int .i64 (k : Int) := hdep ⟨28, .data⟩ (by simp) rfl _ _ rfl rfl
                    have h8 : a.tmps.getD 134 undef = .bool true := hdep ⟨26, .guard⟩ (by simp) rfl _ _ rfl rfl
                    have hwd := hgd 26 true rfl _ _ rfl rfl true h8
                    clear hdep hgd
                    refine ⟨fun _ => .inl ?_, fun hw => (by rw [hwd] at hw; cases hw)⟩
                    clear h8 hwd
                    clear hI
                    generalize a.eval = ρ at *
                    simp [go_sem, e27, e28, hk]
                  · injection ho with ho
                    subst ho
                    have e29 : a.eval (.tmp 137) = .pointer (some ⟨bt, offt + k, none⟩) := hdep ⟨29, .data⟩ (by simp) rfl _ _ rfl rfl
                    have h8 : a.tmps.getD 134 undef = .bool true := hdep ⟨26, .guard⟩ (by simp) rfl _ _ rfl rfl
                    have hwd := hgd 26 true rfl _ _ rfl rfl true h8
                    clear hdep hgd
                    have ek2 := (hI.cell (p := ⟨bt, offt + k, none⟩) hbt).trans ek
                    refine ⟨fun _ => .inl ?_, fun hw => (by rw [hwd] at hw; cases hw)⟩
                    clear h8 hwd
                    clear hI
                    generalize a.eval = ρ at *
                    simp [go_sem, e29, ek2]
                  · injection ho with ho
                    subst ho
                    have h8 : a.tmps.getD 134 undef = .bool true := hdep ⟨26, .guard⟩ (by simp) rfl _ _ rfl rfl
                    have hwd := hgd 26 true rfl _ _ rfl rfl true h8
                    clear hdep hgd
                    refine ⟨fun _ => .inl ?_, fun hw => (by rw [hwd] at hw; cases hw)⟩
                    clear h8 hwd
                    clear hI
                    generalize a.eval = ρ at *
                    simp [go_sem, r5]
                  · injection ho with ho
                    subst ho
                    have h8 : a.tmps.getD 134 undef = .bool true := hdep ⟨26, .guard⟩ (by simp) rfl _ _ rfl rfl
                    have hwd := hgd 26 true rfl _ _ rfl rfl true h8
                    clear hdep hgd
                    refine ⟨fun _ => .inl ?_, fun hw => (by rw [hwd] at hw; cases hw)⟩
                    clear h8 hwd
                    clear hI
                    generalize a.eval = ρ at *
                    simp [go_sem, r15]
                  · injection ho with ho
                    subst ho
                    have e32 : a.eval (.tmp 140) = .int .i64 (k : Int) := hdep ⟨32, .data⟩ (by simp) rfl _ _ rfl rfl
                    have h8 : a.tmps.getD 134 undef = .bool true := hdep ⟨26, .guard⟩ (by simp) rfl _ _ rfl rfl
                    have hwd := hgd 26 true rfl _ _ rfl rfl true h8
                    clear hdep hgd
                    refine ⟨fun _ => .inl ?_, fun hw => (by rw [hwd] at hw; cases hw)⟩
                    clear h8 hwd
                    clear hI
                    generalize a.eval = ρ at *
                    simp [go_sem, e32, e2, hc]
                  · injection ho with ho
                    subst ho
                    have e31 : a.eval (.tmp 139) = .slice (some ⟨bt, offt, none⟩) tl.length ct := hdep ⟨31, .data⟩ (by simp) rfl _ _ rfl rfl
                    have e33 : a.eval (.tmp 141) = .int .i64 ((k : Int) - 1) := hdep ⟨33, .data⟩ (by simp) rfl _ _ rfl rfl
                    have h8 : a.tmps.getD 134 undef = .bool true := hdep ⟨26, .guard⟩ (by simp) rfl _ _ rfl rfl
                    have hwd := hgd 26 true rfl _ _ rfl rfl true h8
                    clear hdep hgd
                    refine ⟨fun _ => .inl ?_, fun hw => (by rw [hwd] at hw; cases hw)⟩
                    clear h8 hwd
                    clear hI
                    generalize a.eval = ρ at *
                    simp [go_sem, e31, e33, e1, e4, e5]
                  · injection ho with ho
                    subst ho
                    have e34 : a.eval (.tmp 142) = .pointer (some ⟨bt, offt + (k - 1), none⟩) := hdep ⟨34, .data⟩ (by simp) rfl _ _ rfl rfl
                    have h8 : a.tmps.getD 134 undef = .bool true := hdep ⟨26, .guard⟩ (by simp) rfl _ _ rfl rfl
                    have hwd := hgd 26 true rfl _ _ rfl rfl true h8
                    clear hdep hgd
                    have ep2 := (hI.cell (p := ⟨bt, offt + (k - 1), none⟩) hbt).trans ep
                    refine ⟨fun _ => .inl ?_, fun hw => (by rw [hwd] at hw; cases hw)⟩
                    clear h8 hwd
                    clear hI
                    generalize a.eval = ρ at *
                    simp [go_sem, e34, ep2]
                  · injection ho with ho
                    subst ho
                    have e30 : a.eval (.tmp 138) = .int .i64 (j : Int) := hdep ⟨30, .data⟩ (by simp) rfl _ _ rfl rfl
                    have e35 : a.eval (.tmp 143) = .int .i64 y := hdep ⟨35, .data⟩ (by simp) rfl _ _ rfl rfl
                    have h8 : a.tmps.getD 134 undef = .bool true := hdep ⟨26, .guard⟩ (by simp) rfl _ _ rfl rfl
                    have hwd := hgd 26 true rfl _ _ rfl rfl true h8
                    clear hdep hgd
                    refine ⟨fun _ => .inl ?_, fun hw => (by rw [hwd] at hw; cases hw)⟩
                    clear h8 hwd
                    clear hI
                    generalize a.eval = ρ at *
                    simp [go_sem, e30, e35, i7]
                  · injection ho with ho
                    subst ho
                    have e26 : a.eval (.tmp 134) = .bool true := hdep ⟨26, .data⟩ (by simp) rfl _ _ rfl rfl
                    have e36 : a.eval (.tmp 144) = .bool false := hdep ⟨36, .data⟩ (by simp) rfl _ _ rfl rfl
                    have h8 : a.tmps.getD 131 undef = .bool false := hdep ⟨23, .guard⟩ (by simp) rfl _ _ rfl rfl
                    have hwd := hgd 23 false rfl _ _ rfl rfl false h8
                    clear hdep hgd
                    refine ⟨fun _ => .inl ?_, fun hw => (by rw [hwd] at hw; cases hw)⟩
                    clear h8 hwd
                    clear hI
                    generalize a.eval = ρ at *
                    simp [go_sem, e26, e36, hc]
                  · injection ho with ho
                    subst ho
                    have e23 : a.eval (.tmp 131) = .bool false := hdep ⟨23, .data⟩ (by simp) rfl _ _ rfl rfl
                    have e37 : a.eval (.tmp 145) = .bool false := hdep ⟨37, .data⟩ (by simp) rfl _ _ rfl rfl
                    clear hdep hgd
                    refine ⟨fun _ => .inl ?_, fun hw => (by simp [Region.wanted] at hw)⟩
                    clear hI
                    generalize a.eval = ρ at *
                    simp [go_sem, e23, e37, hc]
                  · simp at ho
                intro wx hb
                simp only [putAll, Act.put, List.setIfInBounds_toArray, List.set_cons_zero, List.set_cons_succ, Nat.reduceAdd]
                clear e2
                go_wp2_with fail
                go_roundg g
                case measure => omega
                case rel =>
                  have hs := hb.size
                  exact ⟨k + 1, by have := HG.out; omega, by go_num, HO.out.upto hb, HIt.out.upto hb, (hb.cell (p := ⟨w.heap.size, 1, none⟩) hz).trans q1, by omega, HBW.out.trans (hb.mono HBW.out.size)⟩
    · have b1 : (outsE nb ls out != 0) = true := by rw [bne_iff_ne]; exact he
      generalize outsE nb ls out = er at *
      have KO := Lib.hid ko
      clear ko he
      have HB0 := Lib.hid (Below.refl w.heap.size w)
      go_enter Try.func6, Try.ntmps6
      go_wp2_with fail
      have hb := below_alloc2 w (.cells #[.int .i64 nb, .slice A ls.length c] 24) (.cells #[.slice O out.length co] 25)
      have q0 : ((w.alloc (.cells #[.int .i64 nb, .slice A ls.length c] 24)).alloc (.cells #[.slice O out.length co] 25)).cell? ⟨w.heap.size, 0, none⟩ = some (.int .i64 nb) := by simp
      have q1 : ((w.alloc (.cells #[.int .i64 nb, .slice A ls.length c] 24)).alloc (.cells #[.slice O out.length co] 25)).cell? ⟨w.heap.size, 1, none⟩ = some (.slice A ls.length c) := by simp
      have hz : w.heap.size < ((w.alloc (.cells #[.int .i64 nb, .slice A ls.length c] 24)).alloc (.cells #[.slice O out.length co] 25)).heap.size := by simp; omega
      have HB1 := Lib.hid (HB0.out.trans (hb.mono HB0.out.size))
      clear HB0
      replace HL := Lib.hid (HL.out.upto hb)
      replace HO := Lib.hid (HO.out.upto hb)
      clear hb
      refine (KL.out (w.alloc (.cells #[.int .i64 nb, .slice A ls.length c] 24)) _ (by simp)).mono ?_
      rintro e w2 ⟨rfl, hb⟩
      rw [← World.size_alloc (w.alloc (.cells #[.int .i64 nb, .slice A ls.length c] 24)) (.cells #[.slice O out.length co] 25)] at hb
      have HB2 := Lib.hid (HB1.out.trans (hb.mono HB1.out.size))
      clear HB1
      replace HL := Lib.hid (HL.out.upto hb)
      replace HO := Lib.hid (HO.out.upto hb)
      replace q0 := (hb.cell (p := ⟨w.heap.size, 0, none⟩) hz).trans q0
      replace q1 := (hb.cell (p := ⟨w.heap.size, 1, none⟩) hz).trans q1
      replace hz : w.heap.size < w2.heap.size := Nat.lt_of_lt_of_le hz hb.size
      clear hb
      go_wp2_with fail
      refine (awake16_any _).mono ?_
      rintro e w3 ⟨rfl, hb⟩
      have HB3 := Lib.hid (HB2.out.trans (hb.mono HB2.out.size))
      clear HB2
      replace HL := Lib.hid (HL.out.upto hb)
      replace HO := Lib.hid (HO.out.upto hb)
      replace q0 := (hb.cell (p := ⟨w.heap.size, 0, none⟩) hz).trans q0
      replace q1 := (hb.cell (p := ⟨w.heap.size, 1, none⟩) hz).trans q1
      replace hz : w.heap.size < w3.heap.size := Nat.lt_of_lt_of_le hz hb.size
      clear hb
      go_wp2_with fail
      refine (KO.out _ HL.out HO.out).mono ?_
      rintro e w4 ⟨rfl, hb⟩
      have HB4 := Lib.hid (HB3.out.trans (hb.mono HB3.out.size))
      clear HB3
      replace HL := Lib.hid (HL.out.upto hb)
      replace HO := Lib.hid (HO.out.upto hb)
      replace q0 := (hb.cell (p := ⟨w.heap.size, 0, none⟩) hz).trans q0
      replace q1 := (hb.cell (p := ⟨w.heap.size, 1, none⟩) hz).trans q1
      replace hz : w.heap.size < w4.heap.size := Nat.lt_of_lt_of_le hz hb.size
      clear hb
      go_wp2_with fail
      refine (awake16_any _).mono ?_
      rintro e w5 ⟨rfl, hb⟩
      have HB5 := Lib.hid (HB4.out.trans (hb.mono HB4.out.size))
      clear HB4
      replace HL := Lib.hid (HL.out.upto hb)
      replace HO := Lib.hid (HO.out.upto hb)
      replace q0 := (hb.cell (p := ⟨w.heap.size, 0, none⟩) hz).trans q0
      replace q1 := (hb.cell (p := ⟨w.heap.size, 1, none⟩) hz).trans q1
      replace hz : w.heap.size < w5.heap.size := Nat.lt_of_lt_of_le hz hb.size
      clear hb
      go_wp2_with fail
      go_ret
      exact ⟨rfl, HB5.out⟩
end Go.Proofs.Ytmojjfdamdgegaa
