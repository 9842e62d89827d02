/- OutageForm: the walk. -/
import Derived.Test.YtklfijhlibpmaaaOfoP
import Derived.Test.YtklfijhlibpmaaaOunW
namespace Go.Proofs.Ytklfijhlibpmaaa
open Go.RowKit
set_option linter.unusedVariables false
set_option maxRecDepth 100000

set_option maxHeartbeats 32000000 in
theorem ofo_walk (A0 : Option Addr) (c0 : Nat) (l : List Og) (h bz : Int) (W : World) (hcap : l.length ≤ c0) (hl : OgsR W W.heap.size A0 l) (hbd : OgBs l) (hlo : -9223372036854775808 ≤ h) (hhi : h ≤ 9223372036854775807) (hb0 : 0 ≤ bz) (hb1 : bz ≤ 255) :
    Calls Try.prog 6 #[.slice A0 l.length c0, .int .i64 h, .int .u8 bz] W fun e w' => e = .returned (.bool true) ∧ Below W.heap.size W w' := by
  have HL := Lib.hid hl
  have HOB := Lib.hid hbd
  clear hl hbd
  have HB0 := Lib.hid (Below.refl W.heap.size W)
  obtain ⟨i0, hi, hz0, hz1, hz2⟩ := info_parts info_og
  by_cases h100 : 60 < l.length
  · have b2 : decide ((60 : Int) < l.length) = true := by simp; omega
    go_enter Try.func6, Try.ntmps6
    go_wp2_with (go_at_call 8; refine (awake_any _).mono ?_; rintro e w1 ⟨rfl, hb⟩)
    go_ret
    exact ⟨rfl, hb⟩
  have b2 : decide ((60 : Int) < l.length) = false := by simp; omega
  obtain ⟨kN, hkE⟩ : ∃ kN : Nat, bz.tmod ((l.length : Int) + 1) = (kN : Int) := ⟨(bz.tmod ((l.length : Int) + 1)).toNat, by have := Int.tmod_nonneg ((l.length : Int) + 1) hb0; omega⟩
  have hkN : kN ≤ l.length := by have := Int.tmod_lt_of_pos bz (show (0 : Int) < (l.length : Int) + 1 by omega); omega
  have hkM : bz % ((l.length : Int) + 1) = (kN : Int) := by rw [← hkE, Int.tmod_eq_emod_of_nonneg hb0]
  have hdz : ¬ ((l.length : Int) + 1 = 0) := by omega
  have hs1 := slice_l A0 l.length c0 kN hkN hcap
  have hs2 := slice_h A0 l.length c0 kN (by omega)
  have PD := Lib.hid (fun (w : World) (h : OgsR w w.heap.size A0 l) => h.drop kN hcap)
  have PT := Lib.hid (fun (w : World) (h : OgsR w w.heap.size A0 l) => h.part 0 kN hcap)
  have KOW := Lib.hid (fun w hl => own_any (subA A0 c0 kN) (c0 - kN) (l.drop kN) w hl (by simp; omega))
  rw [List.drop_zero] at PT
  rw [List.length_drop] at KOW
  generalize subA A0 c0 kN = Ak at *
  generalize subA A0 c0 0 = Az at *
  generalize c0 - kN = ck at *
  obtain ⟨nk, hnk⟩ : ∃ nk, l.length - kN = nk := ⟨_, rfl⟩
  rw [hnk] at hs1 KOW
  clear hnk
  obtain ⟨tl, etl⟩ : ∃ x, x = l.drop kN ++ l.take kN := ⟨_, rfl⟩
  obtain ⟨nl, enl⟩ : ∃ x, x = ogN l := ⟨_, rfl⟩
  obtain ⟨lt, elt⟩ : ∃ x, x = l ++ tl := ⟨_, rfl⟩
  obtain ⟨ln, eln⟩ : ∃ x, x = l ++ nl := ⟨_, rfl⟩
  have hnl : nl.length ≤ l.length := by rw [enl]; exact ogN_length l
  have htl : tl.length ≤ 60 := by rw [etl]; simp; omega
  have hlt : lt.length ≤ 120 := by rw [elt]; simp; omega
  have hln : ln.length ≤ 120 := by rw [eln]; simp; omega
  have bn : OgBs nl := by rw [enl]; exact ogN_b HOB.out
  have bt : OgBs tl := by rw [etl]; exact HOB.out.turned kN
  have b_lt : OgBs lt := by rw [elt]; exact HOB.out.append bt
  have b_ln : OgBs ln := by rw [eln]; exact HOB.out.append bn
  have KN0 := Lib.hid (show ∀ (A : Option Addr) (c : Nat) (w : World), OgsR w w.heap.size A l → Calls Try.prog 10 #[.slice A l.length c] w (OgE w nl) from fun A c w h => by rw [enl]; exact normal_any A c l w h HOB.out (by omega))
  have KN1 := Lib.hid (show ∀ (A : Option Addr) (c : Nat) (w : World), OgsR w w.heap.size A nl → Calls Try.prog 10 #[.slice A nl.length c] w (OgE w nl) from fun A c w h => by have := normal_any A c nl w h bn (by omega); rwa [show ogN nl = nl by rw [enl]; exact norm_norm l] at this)
  have KN2 := Lib.hid (show ∀ (A : Option Addr) (c : Nat) (w : World), OgsR w w.heap.size A tl → Calls Try.prog 10 #[.slice A tl.length c] w (OgE w nl) from fun A c w h => by have := normal_any A c tl w h bt (by omega); rwa [show ogN tl = nl by rw [enl, etl]; exact norm_turned l kN] at this)
  have KN3 := Lib.hid (show ∀ (A : Option Addr) (c : Nat) (w : World), OgsR w w.heap.size A lt → Calls Try.prog 10 #[.slice A lt.length c] w (OgE w nl) from fun A c w h => by have := normal_any A c lt w h b_lt (by omega); rwa [show ogN lt = nl by rw [enl, elt, etl]; exact norm_twice l kN] at this)
  have KN4 := Lib.hid (show ∀ (A : Option Addr) (c : Nat) (w : World), OgsR w w.heap.size A ln → Calls Try.prog 10 #[.slice A ln.length c] w (OgE w nl) from fun A c w h => by have := normal_any A c ln w h b_ln (by omega); rwa [show ogN ln = nl by rw [eln, enl]; exact norm_with l] at this)
  have KS := Lib.hid (show ∀ (A A' : Option Addr) (c c' : Nat) (w : World), OgsR w w.heap.size A nl → OgsR w w.heap.size A' nl → Calls Try.prog 11 #[.slice A nl.length c, .slice A' nl.length c'] w (fun e w' => e = .returned (.bool true) ∧ Below w.heap.size w w') from fun A A' c c' w h h' => by
    refine (same_any A A' c c' nl nl w h h' (by omega) (by omega)).mono ?_
    rintro e w' ⟨rfl, n, rfl⟩
    exact ⟨by simp, below_drewN (Below.refl _ _) n⟩)
  have HSEP := Lib.hid (show nl.Pairwise ogSep by rw [enl]; exact (ogN_is l).sep)
  have HSAME := Lib.hid (show ∀ ks hh, affL ks nl hh = affL ks l hh from fun ks hh => by rw [enl]; exact affL_same (ogN_is l).same ks hh)
  have ETL := Lib.hid etl
  have ELT := Lib.hid elt
  have ELN := Lib.hid eln
  have HBN := Lib.hid bn
  have dlen : decide ((l.length : Int) < nl.length) = false := by simp; omega
  clear etl elt eln enl bn bt b_lt b_ln
  go_enter Try.func6, Try.ntmps6
  go_wp2_with fail
  refine (awake_any _).mono ?_
  rintro e w1 ⟨rfl, hb⟩
  replace HL := Lib.hid (HL.out.upto hb)
  have HB1 := Lib.hid (HB0.out.trans (hb.mono HB0.out.size))
  clear hb HB0
  go_wp2_with fail
  refine (KN0.out A0 c0 _ HL.out).mono ?_
  rintro e w2 ⟨v, rfl, hown, hb⟩
  obtain ⟨An, cn, rfl, hI⟩ := ownsRow_ogs hown
  have Hn := Lib.hid hI
  replace HL := Lib.hid (HL.out.upto hb)
  have HB2 := Lib.hid (HB1.out.trans (hb.mono HB1.out.size))
  clear hb HB1 hown hI
  have HLD := Lib.hid (PD.out _ HL.out)
  have HLT := Lib.hid (PT.out _ HL.out)
  clear PD PT
  go_wp2_with fail
  refine region_eachX (TurnF (.slice A0 l.length c0) (.slice Ak nk ck) (.slice Az kN c0) kN w2.heap.size (l.drop kN) tl) (fun _ W => Below w2.heap.size w2 W) (by kernel_rfl) (by kernel_rfl) (Below.refl _ _).drew ?_ ?_
  · intro iq oq ho done aq W hni hcl hI hdep hrest
    have r0 : aq.eval (.tmp 0) = .slice A0 l.length c0 := hrest 0 (apart_of (by kernel_rfl))
    have r8 : aq.eval (.tmp 8) = .int .i64 (kN : Int) := hrest 8 (apart_of (by kernel_rfl))
    have hfn : ∀ f, aq.eval (.func f) = .func (.func f) #[] #[] := fun _ => rfl
    clear hrest
    rcases iq with _ | _ | _ | _ | _ | _ | _ | _ | _ | iq
    · injection ho with ho
      subst ho
      refine ⟨fun _ K Q hK => wp_of_value (v := .slice A0 l.length c0) ?_ (hK _ _ hI rfl fun j u _ _ h => h.keep (Below.refl _ _) _), fun hw => by simp [Region.wanted] at hw⟩
      clear hK hdep hI hcl hni
      generalize aq.eval = ρ at *
      simp [go_sem, r0]
    · injection ho with ho
      subst ho
      refine ⟨fun _ K Q hK => wp_of_value (v := .int .i64 (kN : Int)) ?_ (hK _ _ hI rfl fun j u _ _ h => h.keep (Below.refl _ _) _), fun hw => by simp [Region.wanted] at hw⟩
      clear hK hdep hI hcl hni
      generalize aq.eval = ρ at *
      simp [go_sem, r8]
    · injection ho with ho
      subst ho
      have d0 : aq.eval (.tmp 32) = .slice A0 l.length c0 := ((hdep ⟨0, .data⟩ (by simp) rfl).2 _ rfl).1 _ rfl
      have d1 : aq.eval (.tmp 33) = .int .i64 (kN : Int) := ((hdep ⟨1, .data⟩ (by simp) rfl).2 _ rfl).1 _ rfl
      refine ⟨fun _ K Q hK => wp_of_value (v := .slice Ak nk ck) ?_ (hK _ _ hI rfl fun j u _ _ h => h.keep (Below.refl _ _) _), fun hw => by simp [Region.wanted] at hw⟩
      clear hK hdep hI hcl hni
      generalize aq.eval = ρ at *
      simp [go_sem, d0, d1, hs1]
    · injection ho with ho
      subst ho
      have d2 : aq.eval (.tmp 34) = .slice Ak nk ck := ((hdep ⟨2, .data⟩ (by simp) rfl).2 _ rfl).1 _ rfl
      have hL : OgsR W W.heap.size Ak (l.drop kN) := (HLD.out.below hI).more hI.size
      refine ⟨fun _ K Q hK => wp_of_enter (f := 9) (args := #[.slice Ak nk ck]) (w' := W) (R := fun v w' => w'.ownsRow w2.heap.size 27 4 v (l.drop kN).length (ogCells (l.drop kN)) ∧ Below W.heap.size W w') ?_ ((KOW.out W hL).mono fun e w' ⟨v, he, ho, hb⟩ => ⟨v, he, ownsRow_base ho hI.size, hb⟩) ?_, fun hw => by simp [Region.wanted] at hw⟩
      · clear hK hdep hI hcl hni hL
        generalize aq.eval = ρ at *
        simp [go_sem, d2, hfn]
      · rintro v w' ⟨ho, hb⟩
        exact hK _ _ (hI.trans (hb.mono hI.size)) (fun _ => ho) fun j u _ _ h => h.keep hb _
    · injection ho with ho
      subst ho
      refine ⟨fun _ K Q hK => wp_of_value (v := .slice A0 l.length c0) ?_ (hK _ _ hI rfl fun j u _ _ h => h.keep (Below.refl _ _) _), fun hw => by simp [Region.wanted] at hw⟩
      clear hK hdep hI hcl hni
      generalize aq.eval = ρ at *
      simp [go_sem, r0]
    · injection ho with ho
      subst ho
      refine ⟨fun _ K Q hK => wp_of_value (v := .int .i64 (kN : Int)) ?_ (hK _ _ hI rfl fun j u _ _ h => h.keep (Below.refl _ _) _), fun hw => by simp [Region.wanted] at hw⟩
      clear hK hdep hI hcl hni
      generalize aq.eval = ρ at *
      simp [go_sem, r8]
    · injection ho with ho
      subst ho
      have d4 : aq.eval (.tmp 36) = .slice A0 l.length c0 := ((hdep ⟨4, .data⟩ (by simp) rfl).2 _ rfl).1 _ rfl
      have d5 : aq.eval (.tmp 37) = .int .i64 (kN : Int) := ((hdep ⟨5, .data⟩ (by simp) rfl).2 _ rfl).1 _ rfl
      refine ⟨fun _ K Q hK => wp_of_value (v := .slice Az kN c0) ?_ (hK _ _ hI rfl fun j u _ _ h => h.keep (Below.refl _ _) _), fun hw => by simp [Region.wanted] at hw⟩
      clear hK hdep hI hcl hni
      generalize aq.eval = ρ at *
      simp [go_sem, d4, d5, hs2]
    · injection ho with ho
      subst ho
      have d6 : aq.eval (.tmp 38) = .slice Az kN c0 := ((hdep ⟨6, .data⟩ (by simp) rfl).2 _ rfl).1 _ rfl
      have hown : W.ownsRow w2.heap.size 27 4 (aq.eval (.tmp 35)) (l.drop kN).length (ogCells (l.drop kN)) := ((hdep ⟨3, .data⟩ (by simp) rfl).2 _ rfl).1 _ rfl hni
      have hZ : OgsR W W.heap.size Az (l.take kN) := (HLT.out.below hI).more hI.size
      refine ⟨fun _ K Q hK => ?_, fun hw => by simp [Region.wanted] at hw⟩
      refine wp_append_any W (.tmp 35) (.tmp 38) _ rfl w2.heap.size 27 i0 _ 4 32 Try.underlying22 hi hz0 hz1 hz2 rfl (by omega) (aq.eval (.tmp 35)) (l.drop kN).length (ogCells (l.drop kN)) rfl hown Az kN c0 (ogCells (l.take kN)) d6 (by have := hZ.toSrc; rwa [List.length_take, Nat.min_eq_left hkN] at this) (one_ogs _) (by simp only [maxLen, List.length_drop]; omega) (by simp only [List.length_drop]; omega) hI.size ?_
      intro v w' hown' hg _
      have hbl : Below w2.heap.size w2 w' := below_of_row hI hown (Nat.le_refl _) hg hI.size
      have hrow : w'.ownsRow w2.heap.size 27 4 v tl.length (ogCells tl) := by rw [ETL.out, List.length_append, List.length_take, Nat.min_eq_left hkN, ogCells_append]; exact hown'
      refine hK _ _ hbl hrow fun j u hd _ h => ?_
      rcases j with _ | _ | _ | _ | _ | _ | _ | _ | _ | j
      · exact h
      · exact h
      · exact h
      · exact fun h7 => absurd (.inl rfl) h7
      · exact h
      · exact h
      · exact h
      · exact absurd hd hni
      · exact absurd (hcl 8 _ rfl hd ⟨7, .data⟩ (by simp) rfl) hni
      · trivial
    · injection ho with ho
      subst ho
      have h7 : W.ownsRow w2.heap.size 27 4 (aq.eval (.tmp 39)) tl.length (ogCells tl) := ((hdep ⟨7, .data⟩ (by simp) rfl).2 _ rfl).1 _ rfl
      obtain ⟨u, hu⟩ : ∃ u, aq.eval (.tmp 39) = u := ⟨_, rfl⟩
      rw [hu] at h7
      refine ⟨fun _ K Q hK => wp_of_value (v := u) ?_ (hK _ _ hI h7 fun j u _ _ h => h.keep (Below.refl _ _) _), fun hw => by simp [Region.wanted] at hw⟩
      clear hK hdep hI hcl hni h7
      generalize aq.eval = ρ at *
      simp [go_sem, hu]
    · simp at ho
  intro done vs w3 hdn hI hF
  have f0 : vs 0 = .slice A0 l.length c0 := hF 0 (by decide)
  have f1 : vs 1 = .int .i64 (kN : Int) := hF 1 (by decide)
  have f2 : vs 2 = .slice Ak nk ck := hF 2 (by decide)
  have f4 : vs 4 = .slice A0 l.length c0 := hF 4 (by decide)
  have f5 : vs 5 = .int .i64 (kN : Int) := hF 5 (by decide)
  have f6 : vs 6 = .slice Az kN c0 := hF 6 (by decide)
  obtain ⟨At, ct, f8, hlt⟩ := ownsRow_ogs (show w3.ownsRow _ _ _ _ _ _ from hF 8 (by decide))
  have HT := Lib.hid hlt
  have HW23 := Lib.hid hI
  clear hF hI hlt hdn
  simp only [putAll, Act.put, List.setIfInBounds_toArray, List.set_cons_zero, List.set_cons_succ, Nat.reduceAdd, f0, f1, f2, f4, f5, f6, f8]
  clear f0 f1 f2 f4 f5 f6 f8
  replace HL := Lib.hid (HL.out.upto HW23.out)
  replace Hn := Lib.hid (Hn.out.upto HW23.out)
  have HB3 := Lib.hid (HB2.out.trans (HW23.out.mono HB2.out.size))
  clear HB2 HW23 HLD HLT KOW hs1 hs2
  go_wp2_with fail
  refine (KN1.out _ _ _ Hn.out).mono ?_
  rintro e w4 ⟨v, rfl, hown, hb⟩
  obtain ⟨Az, cz, rfl, hI⟩ := ownsRow_ogs hown
  have Hz := Lib.hid hI
  replace HL := Lib.hid (HL.out.upto hb)
  replace Hn := Lib.hid (Hn.out.upto hb)
  replace HT := Lib.hid (HT.out.upto hb)
  have HB4 := Lib.hid (HB3.out.trans (hb.mono HB3.out.size))
  clear hb HB3 hown hI
  go_wp2_with fail
  refine (KS.out _ _ _ _ _ Hz.out Hn.out).mono ?_
  rintro e w5 ⟨rfl, hb⟩
  replace HL := Lib.hid (HL.out.upto hb)
  replace Hn := Lib.hid (Hn.out.upto hb)
  replace HT := Lib.hid (HT.out.upto hb)
  have HB5 := Lib.hid (HB4.out.trans (hb.mono HB4.out.size))
  clear hb HB4
  clear Hz
  go_wp2_with fail
  refine (KN2.out _ _ _ HT.out).mono ?_
  rintro e w6 ⟨v, rfl, hown, hb⟩
  obtain ⟨Az, cz, rfl, hI⟩ := ownsRow_ogs hown
  have Hz := Lib.hid hI
  replace HL := Lib.hid (HL.out.upto hb)
  replace Hn := Lib.hid (Hn.out.upto hb)
  replace HT := Lib.hid (HT.out.upto hb)
  have HB6 := Lib.hid (HB5.out.trans (hb.mono HB5.out.size))
  clear hb HB5 hown hI
  go_wp2_with fail
  refine (KS.out _ _ _ _ _ Hz.out Hn.out).mono ?_
  rintro e w7 ⟨rfl, hb⟩
  replace HL := Lib.hid (HL.out.upto hb)
  replace Hn := Lib.hid (Hn.out.upto hb)
  replace HT := Lib.hid (HT.out.upto hb)
  have HB7 := Lib.hid (HB6.out.trans (hb.mono HB6.out.size))
  clear hb HB6
  clear Hz
  go_wp2_with fail
  refine (own_any A0 c0 l w7 HL.out (by omega)).mono ?_
  rintro e w8 ⟨v1, rfl, hown1, hb⟩
  have HO1 := Lib.hid hown1
  have HWA := Lib.hid hb
  clear hb hown1
  go_wp2_with (at_builtin; refine wpList_append_want _ rfl (.tmp 61) (.tmp 62) _ rfl w7.heap.size 27 i0 _ 4 32 Try.underlying22 hi hz0 hz1 hz2 rfl (by omega) v1 l.length (ogCells l) rfl HO1.out At tl.length ct (ogCells tl) rfl (HT.out.upto HWA.out).toSrc (one_ogs _) (by simp only [maxLen]; omega) (by omega) HWA.out.size ?_; intro v2 w9 hown2 hg2 _; have HO2 := Lib.hid (row_append ELT.out hown2); have HWB := Lib.hid (below_of_row HWA.out HO1.out (Nat.le_refl _) hg2 HWA.out.size); clear hown2 hg2)
  obtain ⟨Ay, cy, rfl, hI⟩ := ownsRow_ogs HO2.out
  have Hy := Lib.hid hI
  replace HL := Lib.hid (HL.out.upto HWB.out)
  replace Hn := Lib.hid (Hn.out.upto HWB.out)
  replace HT := Lib.hid (HT.out.upto HWB.out)
  have HB9 := Lib.hid (HB7.out.trans (HWB.out.mono HB7.out.size))
  clear hI HO2 HO1 HWA HWB HB7
  refine (KN3.out _ _ _ Hy.out).mono ?_
  rintro e w10 ⟨v, rfl, hown, hb⟩
  obtain ⟨Az, cz, rfl, hI⟩ := ownsRow_ogs hown
  have Hz := Lib.hid hI
  replace HL := Lib.hid (HL.out.upto hb)
  replace Hn := Lib.hid (Hn.out.upto hb)
  have HB10 := Lib.hid (HB9.out.trans (hb.mono HB9.out.size))
  clear hb HB9 hown hI
  clear Hy HT
  go_wp2_with fail
  refine (KS.out _ _ _ _ _ Hz.out Hn.out).mono ?_
  rintro e w11 ⟨rfl, hb⟩
  replace HL := Lib.hid (HL.out.upto hb)
  replace Hn := Lib.hid (Hn.out.upto hb)
  have HB11 := Lib.hid (HB10.out.trans (hb.mono HB10.out.size))
  clear hb HB10
  clear Hz
  go_wp2_with fail
  refine (own_any A0 c0 l w11 HL.out (by omega)).mono ?_
  rintro e w12 ⟨v3, rfl, hown1, hb⟩
  have HO1 := Lib.hid hown1
  have HWA := Lib.hid hb
  clear hb hown1
  go_wp2_with (at_builtin; refine wpList_append_want _ rfl (.tmp 71) (.tmp 72) _ rfl w11.heap.size 27 i0 _ 4 32 Try.underlying22 hi hz0 hz1 hz2 rfl (by omega) v3 l.length (ogCells l) rfl HO1.out An nl.length cn (ogCells nl) rfl (Hn.out.upto HWA.out).toSrc (one_ogs _) (by simp only [maxLen]; omega) (by omega) HWA.out.size ?_; intro v4 w13 hown2 hg2 _; have HO2 := Lib.hid (row_append ELN.out hown2); have HWB := Lib.hid (below_of_row HWA.out HO1.out (Nat.le_refl _) hg2 HWA.out.size); clear hown2 hg2)
  obtain ⟨Ay, cy, rfl, hI⟩ := ownsRow_ogs HO2.out
  have Hy := Lib.hid hI
  replace HL := Lib.hid (HL.out.upto HWB.out)
  replace Hn := Lib.hid (Hn.out.upto HWB.out)
  have HB13 := Lib.hid (HB11.out.trans (HWB.out.mono HB11.out.size))
  clear hI HO2 HO1 HWA HWB HB11
  refine (KN4.out _ _ _ Hy.out).mono ?_
  rintro e w14 ⟨v, rfl, hown, hb⟩
  obtain ⟨Az, cz, rfl, hI⟩ := ownsRow_ogs hown
  have Hz := Lib.hid hI
  replace HL := Lib.hid (HL.out.upto hb)
  replace Hn := Lib.hid (Hn.out.upto hb)
  have HB14 := Lib.hid (HB13.out.trans (hb.mono HB13.out.size))
  clear hb HB13 hown hI
  clear Hy
  go_wp2_with fail
  refine (KS.out _ _ _ _ _ Hz.out Hn.out).mono ?_
  rintro e w15 ⟨rfl, hb⟩
  replace HL := Lib.hid (HL.out.upto hb)
  replace Hn := Lib.hid (Hn.out.upto hb)
  have HB15 := Lib.hid (HB14.out.trans (hb.mono HB14.out.size))
  clear hb HB14
  clear Hz KN0 KN1 KN2 KN3 KN4 KS ETL ELT ELN
  go_wp2_with fail
  go_loopg [6, 10, 11, 12] nl.length (fun g s6 i s11 s12 wr => ∃ k : Nat, 1 ≤ k ∧ (k + g = nl.length + 1 ∨ nl.length ≤ k) ∧ i = .int .i64 k ∧ Below w15.heap.size w15 wr)
  case atStart => exact ⟨1, by omega, by omega, rfl, Below.refl _ _⟩
  case round =>
    obtain ⟨k, hk1, hkg, rfl, hb⟩ := hrel
    have HBW := Lib.hid hb
    clear hb
    by_cases hk : k < nl.length
    · have hdk : decide ((k : Int) < nl.length) = true := by simp; omega
      obtain ⟨j, hj⟩ : ∃ j, k = j + 1 := ⟨k - 1, by omega⟩
      obtain ⟨g, hgk⟩ : ∃ g, gk = g + 1 := ⟨gk - 1, by omega⟩
      subst hgk
      have HG := Lib.hid hkg
      clear hkg
      have hN1 := Hn.out.upto HBW.out
      obtain ⟨b, off, hAe, hbw, hcc⟩ := hN1 (by omega)
      subst hAe
      obtain ⟨x0, x1, x2, x3⟩ := hcc j (by omega)
      obtain ⟨y0, y1, y2, y3⟩ := hcc k hk
      have hsep := sep_at HSEP.out (i := j) (by omega)
      rw [← hj] at hsep
      have hbx := HBN.out.at_ j
      have hby := HBN.out.at_ k
      clear hcc hN1
      generalize nl.getD j (0, 0, 0, 0) = x at *
      generalize nl.getD k (0, 0, 0, 0) = y at *
      obtain ⟨ak, ax, af, at'⟩ := x
      obtain ⟨bk, bx, bf, bt⟩ := y
      simp only at x0 x1 x2 x3 y0 y1 y2 y3
      obtain ⟨ha1, ha2, ha3, ha4⟩ := hbx
      obtain ⟨hb1, hb2, hb3, hb4⟩ := hby
      simp only at ha1 ha2 ha3 ha4 hb1 hb2 hb3 hb4
      have hsub : IntKind.i64.wrap ((k : Int) - 1) = (j : Int) := by rw [IntWalk.i64_in _ (by omega)]; omega
      have hjn : j < nl.length := by omega
      have hkn : k < nl.length := hk
      have HJ := Lib.hid hj
      clear hj
      go_wp2_with fail
      refine region_eachE (TwoF (.slice (some ⟨b, off, none⟩) nl.length cn) b off j k wr.heap.size (ak, ax, af, at') (bk, bx, bf, bt)) (fun _ W => Below wr.heap.size wr W) (TwoE 186 11 12) (by kernel_rfl) (by kernel_rfl) (Below.refl _ _).drew ⟨rfl, fun h => h.elim, fun h => h.elim, fun h => h.elim⟩ ?_ ?_
      · intro iq oq ho done aq W hni hcl hI hE hdep hrest
        have r7 : aq.eval (.tmp 7) = .slice (some ⟨b, off, none⟩) nl.length cn := hrest 7 (apart_of (by kernel_rfl))
        have r10 : aq.eval (.tmp 10) = .int .i64 (k : Int) := hrest 10 (apart_of (by kernel_rfl))
        have hc : ∀ v, aq.eval (.const v) = v := fun _ => rfl
        clear hrest
        have x0' := (hI.cell (p := ⟨b, off + j * 4, none⟩) hbw).trans x0
        have x1' := (hI.cell (p := ⟨b, off + j * 4 + 1, none⟩) hbw).trans x1
        have x2' := (hI.cell (p := ⟨b, off + j * 4 + 2, none⟩) hbw).trans x2
        have x3' := (hI.cell (p := ⟨b, off + j * 4 + 3, none⟩) hbw).trans x3
        have y0' := (hI.cell (p := ⟨b, off + k * 4, none⟩) hbw).trans y0
        have y1' := (hI.cell (p := ⟨b, off + k * 4 + 1, none⟩) hbw).trans y1
        have y2' := (hI.cell (p := ⟨b, off + k * 4 + 2, none⟩) hbw).trans y2
        have y3' := (hI.cell (p := ⟨b, off + k * 4 + 3, none⟩) hbw).trans y3
        rcases iq with _ | _ | _ | _ | _ | _ | _ | _ | _ | _ | _ | _ | _ | iq
        · injection ho with ho
          subst ho
          refine ⟨fun _ K Q hK => wp_of_value (v := .slice (some ⟨b, off, none⟩) nl.length cn) ?_ (hK _ _ hI rfl (fun _ u _ _ h => h.keep (fun _ _ h => h) (by decide) (by decide)) (hE.pure (by decide) (by decide) (by decide) (by decide) (by decide) (Nat.le_refl _) _)), fun hw => by simp [Region.wanted] at hw⟩
          clear hK hdep hI hcl hni hE
          generalize aq.eval = ρ at *
          simp [go_sem, r7]
        · injection ho with ho
          subst ho
          refine ⟨fun _ K Q hK => wp_of_value (v := .int .i64 (k : Int)) ?_ (hK _ _ hI rfl (fun _ u _ _ h => h.keep (fun _ _ h => h) (by decide) (by decide)) (hE.pure (by decide) (by decide) (by decide) (by decide) (by decide) (Nat.le_refl _) _)), fun hw => by simp [Region.wanted] at hw⟩
          clear hK hdep hI hcl hni hE
          generalize aq.eval = ρ at *
          simp [go_sem, r10]
        · injection ho with ho
          subst ho
          have d1 : aq.eval (.tmp 86) = .int .i64 (k : Int) := ((hdep ⟨1, .data⟩ (by simp) rfl).2 _ rfl).1 _ rfl
          refine ⟨fun _ K Q hK => wp_of_value (v := .int .i64 (j : Int)) ?_ (hK _ _ hI rfl (fun _ u _ _ h => h.keep (fun _ _ h => h) (by decide) (by decide)) (hE.pure (by decide) (by decide) (by decide) (by decide) (by decide) (Nat.le_refl _) _)), fun hw => by simp [Region.wanted] at hw⟩
          clear hK hdep hI hcl hni hE
          generalize aq.eval = ρ at *
          simp [go_sem, d1, hc, hsub]
        · injection ho with ho
          subst ho
          have d0 : aq.eval (.tmp 85) = .slice (some ⟨b, off, none⟩) nl.length cn := ((hdep ⟨0, .data⟩ (by simp) rfl).2 _ rfl).1 _ rfl
          have d2 : aq.eval (.tmp 87) = .int .i64 (j : Int) := ((hdep ⟨2, .data⟩ (by simp) rfl).2 _ rfl).1 _ rfl
          refine ⟨fun _ K Q hK => wp_of_value (v := .pointer (some ⟨b, off + j * 4, none⟩)) ?_ (hK _ _ hI rfl (fun _ u _ _ h => h.keep (fun _ _ h => h) (by decide) (by decide)) (hE.pure (by decide) (by decide) (by decide) (by decide) (by decide) (Nat.le_refl _) _)), fun hw => by simp [Region.wanted] at hw⟩
          clear hK hdep hI hcl hni hE
          generalize aq.eval = ρ at *
          simp [go_sem, d0, d2, hjn]
        · injection ho with ho
          subst ho
          have d3 : aq.eval (.tmp 88) = .pointer (some ⟨b, off + j * 4, none⟩) := ((hdep ⟨3, .data⟩ (by simp) rfl).2 _ rfl).1 _ rfl
          refine ⟨fun _ K Q hK => wp_of_value (v := .agg #[.int .u8 ak, .int .i64 ax, .int .i64 af, .int .i64 at']) ?_ (hK _ _ hI rfl (fun _ u _ _ h => h.keep (fun _ _ h => h) (by decide) (by decide)) (hE.pure (by decide) (by decide) (by decide) (by decide) (by decide) (Nat.le_refl _) _)), fun hw => by simp [Region.wanted] at hw⟩
          clear hK hdep hI hcl hni hE
          generalize aq.eval = ρ at *
          simp [go_sem, d3, x0', x1', x2', x3']
        · injection ho with ho
          subst ho
          refine ⟨fun _ K Q hK => wp_of_value (v := .slice (some ⟨b, off, none⟩) nl.length cn) ?_ (hK _ _ hI rfl (fun _ u _ _ h => h.keep (fun _ _ h => h) (by decide) (by decide)) (hE.pure (by decide) (by decide) (by decide) (by decide) (by decide) (Nat.le_refl _) _)), fun hw => by simp [Region.wanted] at hw⟩
          clear hK hdep hI hcl hni hE
          generalize aq.eval = ρ at *
          simp [go_sem, r7]
        · injection ho with ho
          subst ho
          refine ⟨fun _ K Q hK => wp_of_value (v := .int .i64 (k : Int)) ?_ (hK _ _ hI rfl (fun _ u _ _ h => h.keep (fun _ _ h => h) (by decide) (by decide)) (hE.pure (by decide) (by decide) (by decide) (by decide) (by decide) (Nat.le_refl _) _)), fun hw => by simp [Region.wanted] at hw⟩
          clear hK hdep hI hcl hni hE
          generalize aq.eval = ρ at *
          simp [go_sem, r10]
        · injection ho with ho
          subst ho
          have d5 : aq.eval (.tmp 90) = .slice (some ⟨b, off, none⟩) nl.length cn := ((hdep ⟨5, .data⟩ (by simp) rfl).2 _ rfl).1 _ rfl
          have d6 : aq.eval (.tmp 91) = .int .i64 (k : Int) := ((hdep ⟨6, .data⟩ (by simp) rfl).2 _ rfl).1 _ rfl
          refine ⟨fun _ K Q hK => wp_of_value (v := .pointer (some ⟨b, off + k * 4, none⟩)) ?_ (hK _ _ hI rfl (fun _ u _ _ h => h.keep (fun _ _ h => h) (by decide) (by decide)) (hE.pure (by decide) (by decide) (by decide) (by decide) (by decide) (Nat.le_refl _) _)), fun hw => by simp [Region.wanted] at hw⟩
          clear hK hdep hI hcl hni hE
          generalize aq.eval = ρ at *
          simp [go_sem, d5, d6, hkn]
        · injection ho with ho
          subst ho
          have d7 : aq.eval (.tmp 92) = .pointer (some ⟨b, off + k * 4, none⟩) := ((hdep ⟨7, .data⟩ (by simp) rfl).2 _ rfl).1 _ rfl
          refine ⟨fun _ K Q hK => wp_of_value (v := .agg #[.int .u8 bk, .int .i64 bx, .int .i64 bf, .int .i64 bt]) ?_ (hK _ _ hI rfl (fun _ u _ _ h => h.keep (fun _ _ h => h) (by decide) (by decide)) (hE.pure (by decide) (by decide) (by decide) (by decide) (by decide) (Nat.le_refl _) _)), fun hw => by simp [Region.wanted] at hw⟩
          clear hK hdep hI hcl hni hE
          generalize aq.eval = ρ at *
          simp [go_sem, d7, y0', y1', y2', y3']
        · injection ho with ho
          subst ho
          refine ⟨fun _ K Q hK => wp_of_value (v := .pointer (some ⟨W.heap.size, 0, none⟩)) (w' := W.alloc (.cells zOg 27)) ?_ (hK _ _ (hI.alloc hI.size _) ⟨_, rfl, hI.size, fun _ => Blk.new _ _ _, fun hd => ?_⟩ (fun _ u _ _ h => h.keep (fun _ _ h => h.alloc _) (by decide) (by decide)) (hE.first (by decide) (by decide) hni _)), fun hw => by simp [Region.wanted] at hw⟩
          · clear hK hdep hI hcl hni hE
            generalize aq.eval = ρ at *
            simp [go_sem, zOg]
          · rcases hd with hd | hd
            · exact absurd hd (by decide)
            · exact absurd (hcl 11 _ rfl hd ⟨9, .data⟩ (by simp) rfl) hni
        · injection ho with ho
          subst ho
          refine ⟨fun _ K Q hK => wp_of_value (v := .pointer (some ⟨W.heap.size, 0, none⟩)) (w' := W.alloc (.cells zOg 27)) ?_ (hK _ _ (hI.alloc hI.size _) ⟨_, rfl, hI.size, fun _ => Blk.new _ _ _, fun hd => ?_⟩ (fun _ u _ _ h => h.keep (fun _ _ h => h.alloc _) (by decide) (by decide)) (hE.second (by decide) (by decide) hni _)), fun hw => by simp [Region.wanted] at hw⟩
          · clear hK hdep hI hcl hni hE
            generalize aq.eval = ρ at *
            simp [go_sem, zOg]
          · rcases hd with hd | hd
            · exact absurd hd (by decide)
            · exact absurd (hcl 12 _ rfl hd ⟨10, .data⟩ (by simp) rfl) hni
        · injection ho with ho
          subst ho
          have d4 : aq.eval (.tmp 89) = .agg #[.int .u8 ak, .int .i64 ax, .int .i64 af, .int .i64 at'] := ((hdep ⟨4, .data⟩ (by simp) rfl).2 _ rfl).1 _ rfl
          obtain ⟨p, dp, hsp, hz, _⟩ := ((hdep ⟨9, .data⟩ (by simp) rfl).2 _ rfl).1 _ rfl
          replace dp : aq.eval (.tmp 11) = .pointer (some ⟨p, 0, none⟩) := dp
          have hz := hz hni
          have hd9 : done 9 := (hdep ⟨9, .data⟩ (by simp) rfl).1
          have hd10 : done 10 := (hdep ⟨10, .phase⟩ (by simp) rfl).1
          have hne := hE.2.2.2 hd9 hd10
          have z0 := hz.cell 0
          have z1 := hz.cell 1
          have z2 := hz.cell 2
          have z3 := hz.cell 3
          have g0 := hz.frz 0
          have g1 := hz.frz 1
          have g2 := hz.frz 2
          have g3 := hz.frz 3
          simp only [zOg] at z0 z1 z2 z3
          refine ⟨fun _ K Q hK => wp_of_skip (w' := set4 W p (ak, ax, af, at')) ?_ (hK _ _ (below_set4 hI hsp _) trivial (fun m u hd hu h => ?_) (hE.store (by decide) (by decide) (by rw [size_set4]; exact Nat.le_refl _) _)), fun hw => by simp [Region.wanted] at hw⟩
          · clear hK hdep hI hcl hni hE hz hsp hne hd9 hd10
            generalize aq.eval = ρ at *
            simp [go_sem, set4, d4, dp, z0, z1, z2, z3, g0, g1, g2, g3]
          · rcases m with _ | _ | _ | _ | _ | _ | _ | _ | _ | _ | _ | _ | _ | m
            · exact h
            · exact h
            · exact h
            · exact h
            · exact h
            · exact h
            · exact h
            · exact h
            · exact h
            · have eu := hu _ _ rfl rfl
              refine ⟨p, eu.trans dp, hsp, fun hn => absurd (.inl rfl) hn, fun _ => hz.set4 _⟩
            · have eu := hu _ _ rfl rfl
              obtain ⟨q, eq, hsq, k1, k2⟩ := h
              have hpq : p ≠ q := fun e => hne (by
                show aq.eval (.tmp 11) = aq.eval (.tmp 12)
                have h9 : aq.eval (.tmp 11) = _ := dp
                have h10 : aq.eval (.tmp 12) = _ := (eu.symm.trans eq)
                rw [h9, h10, e])
              refine ⟨q, eq, hsq, fun hn => (k1 fun hd => hn (.inr hd)).set4o hpq _, fun hd => ?_⟩
              rcases hd with hd | hd
              · exact absurd hd (by decide)
              · exact (k2 hd).set4o hpq _
            · trivial
            · trivial
            · trivial
        · injection ho with ho
          subst ho
          have d8 : aq.eval (.tmp 93) = .agg #[.int .u8 bk, .int .i64 bx, .int .i64 bf, .int .i64 bt] := ((hdep ⟨8, .data⟩ (by simp) rfl).2 _ rfl).1 _ rfl
          obtain ⟨p, dp, hsp, hz, _⟩ := ((hdep ⟨10, .data⟩ (by simp) rfl).2 _ rfl).1 _ rfl
          replace dp : aq.eval (.tmp 12) = .pointer (some ⟨p, 0, none⟩) := dp
          have hz := hz hni
          have hd9 : done 9 := (hdep ⟨9, .phase⟩ (by simp) rfl).1
          have hd10 : done 10 := (hdep ⟨10, .data⟩ (by simp) rfl).1
          have hne := hE.2.2.2 hd9 hd10
          have z0 := hz.cell 0
          have z1 := hz.cell 1
          have z2 := hz.cell 2
          have z3 := hz.cell 3
          have g0 := hz.frz 0
          have g1 := hz.frz 1
          have g2 := hz.frz 2
          have g3 := hz.frz 3
          simp only [zOg] at z0 z1 z2 z3
          refine ⟨fun _ K Q hK => wp_of_skip (w' := set4 W p (bk, bx, bf, bt)) ?_ (hK _ _ (below_set4 hI hsp _) trivial (fun m u hd hu h => ?_) (hE.store (by decide) (by decide) (by rw [size_set4]; exact Nat.le_refl _) _)), fun hw => by simp [Region.wanted] at hw⟩
          · clear hK hdep hI hcl hni hE hz hsp hne hd9 hd10
            generalize aq.eval = ρ at *
            simp [go_sem, set4, d8, dp, z0, z1, z2, z3, g0, g1, g2, g3]
          · rcases m with _ | _ | _ | _ | _ | _ | _ | _ | _ | _ | _ | _ | _ | m
            · exact h
            · exact h
            · exact h
            · exact h
            · exact h
            · exact h
            · exact h
            · exact h
            · exact h
            · have eu := hu _ _ rfl rfl
              obtain ⟨q, eq, hsq, k1, k2⟩ := h
              have hpq : p ≠ q := fun e => hne (by
                show aq.eval (.tmp 11) = aq.eval (.tmp 12)
                have h9 : aq.eval (.tmp 11) = _ := (eu.symm.trans eq)
                have h10 : aq.eval (.tmp 12) = _ := dp
                rw [h9, h10, e])
              refine ⟨q, eq, hsq, fun hn => (k1 fun hd => hn (.inr hd)).set4o hpq _, fun hd => ?_⟩
              rcases hd with hd | hd
              · exact absurd hd (by decide)
              · exact (k2 hd).set4o hpq _
            · have eu := hu _ _ rfl rfl
              refine ⟨p, eu.trans dp, hsp, fun hn => absurd (.inl rfl) hn, fun _ => hz.set4 _⟩
            · trivial
            · trivial
            · trivial
        · simp at ho
      intro done aq vs wx hdn hI hE ha hF
      have f0 : vs 0 = .slice (some ⟨b, off, none⟩) nl.length cn := hF 0 (by decide)
      have f1 : vs 1 = .int .i64 (k : Int) := hF 1 (by decide)
      have f2 : vs 2 = .int .i64 (j : Int) := hF 2 (by decide)
      have f3 : vs 3 = .pointer (some ⟨b, off + j * 4, none⟩) := hF 3 (by decide)
      have f4 : vs 4 = .agg #[.int .u8 ak, .int .i64 ax, .int .i64 af, .int .i64 at'] := hF 4 (by decide)
      have f5 : vs 5 = .slice (some ⟨b, off, none⟩) nl.length cn := hF 5 (by decide)
      have f6 : vs 6 = .int .i64 (k : Int) := hF 6 (by decide)
      have f7 : vs 7 = .pointer (some ⟨b, off + k * 4, none⟩) := hF 7 (by decide)
      have f8 : vs 8 = .agg #[.int .u8 bk, .int .i64 bx, .int .i64 bf, .int .i64 bt] := hF 8 (by decide)
      obtain ⟨p, f9, hsp, _, hbp⟩ := hF 9 (by decide)
      obtain ⟨q, f10, hsq, _, hbq⟩ := hF 10 (by decide)
      have hbp := hbp (hdn 11 (by decide))
      have hbq := hbq (hdn 12 (by decide))
      have p0 := hbp.cell 0
      have p1 := hbp.cell 1
      have p2 := hbp.cell 2
      have p3 := hbp.cell 3
      have q0 := hbq.cell 0
      have q1 := hbq.cell 1
      have q2 := hbq.cell 2
      have q3 := hbq.cell 3
      simp only [cOg] at p0 p1 p2 p3 q0 q1 q2 q3
      simp at p0 p1 p2 p3 q0 q1 q2 q3
      have HWX := Lib.hid hI
      rw [ha]
      clear hF hI hdn hE ha hbp hbq hsp hsq
      simp only [putAll, Act.put, List.setIfInBounds_toArray, List.set_cons_zero, List.set_cons_succ, Nat.reduceAdd, f0, f1, f2, f3, f4, f5, f6, f7, f8, f9, f10]
      clear f0 f1 f2 f3 f4 f5 f6 f7 f8 f9 f10
      have HBX := Lib.hid (HBW.out.trans (HWX.out.mono HBW.out.size))
      clear x0 x1 x2 x3 y0 y1 y2 y3 HWX
      rcases (show ak < bk ∨ (ak = bk ∧ ax < bx) ∨ (ak = bk ∧ ax = bx ∧ at' + 1 < bf) by unfold ogSep at hsep; simp only at hsep; omega) with hs | ⟨hs, ht⟩ | ⟨hs, ht, hu⟩
      · have t1 : decide (bk < ak) = false := decide_eq_false (by omega)
        have t2 : (ak == bk) = false := by rw [beq_eq_false_iff_ne]; omega
        clear hsep hs
        go_wp2_with fail
        go_roundg g
        case measure => omega
        case rel => exact ⟨k + 1, by omega, by have := HG.out; omega, by go_num, HBX.out⟩
      · have t1 : decide (bk < ak) = false := decide_eq_false (by omega)
        have t2 : (ak == bk) = true := by rw [beq_iff_eq]; exact hs
        have t3 : decide (bx < ax) = false := decide_eq_false (by omega)
        have t4 : (ax == bx) = false := by rw [beq_eq_false_iff_ne]; omega
        clear hsep hs ht
        go_wp2_with fail
        go_roundg g
        case measure => omega
        case rel => exact ⟨k + 1, by omega, by have := HG.out; omega, by go_num, HBX.out⟩
      · have t1 : decide (bk < ak) = false := decide_eq_false (by omega)
        have t2 : (ak == bk) = true := by rw [beq_iff_eq]; exact hs
        have t3 : decide (bx < ax) = false := decide_eq_false (by omega)
        have t4 : (ax == bx) = true := by rw [beq_iff_eq]; exact ht
        have t5 : decide (bf ≤ at') = false := decide_eq_false (by omega)
        have t6 : (bf - 1 == at') = false := by rw [beq_eq_false_iff_ne]; omega
        clear hsep hs ht
        go_wp2_with fail
        go_roundg g
        case measure => omega
        case rel => exact ⟨k + 1, by omega, by have := HG.out; omega, by go_num, HBX.out⟩
    · have hdk : decide ((k : Int) < nl.length) = false := by simp; omega
      clear hkg
      replace HL := Lib.hid (HL.out.upto HBW.out)
      replace Hn := Lib.hid (Hn.out.upto HBW.out)
      have HB16 := Lib.hid (HB15.out.trans (HBW.out.mono HB15.out.size))
      clear HBW
      obtain ⟨h1, eh1⟩ : ∃ x, IntKind.i64.wrap (h - 1) = x := ⟨_, rfl⟩
      obtain ⟨h2, eh2⟩ : ∃ x, IntKind.i64.wrap (h + 1) = x := ⟨_, rfl⟩
      clear hlo hhi
      go_wp2_with fail
      have hI := IntsR.litU wr 3 [h, h1, h2, 0, 1, 2, 3] #[.int .i64 h, .int .i64 h1, .int .i64 h2, .int .i64 0, .int .i64 1, .int .i64 2, .int .i64 3] rfl
      have hb := (Below.refl wr.heap.size wr).alloc (Nat.le_refl _) (.cells #[.int .i64 h, .int .i64 h1, .int .i64 h2, .int .i64 0, .int .i64 1, .int .i64 2, .int .i64 3] 3)
      replace HL := Lib.hid (HL.out.upto hb)
      replace Hn := Lib.hid (Hn.out.upto hb)
      have HH := Lib.hid hI
      have HB17 := Lib.hid (HB16.out.trans (hb.mono HB16.out.size))
      clear hI hb HB16
      generalize wr.alloc (.cells #[.int .i64 h, .int .i64 h1, .int .i64 h2, .int .i64 0, .int .i64 1, .int .i64 2, .int .i64 3] 3) = wh at *
      obtain ⟨hs, ehs⟩ : ∃ x, x = [h, h1, h2, 0, 1, 2, 3] := ⟨_, rfl⟩
      rw [← ehs] at HH
      have hsl : hs.length = 7 := by rw [ehs]; rfl
      have HHS := Lib.hid hsl
      clear ehs hsl
      go_loopg [6, 14, 15] 7 (fun g s6 i s15 wr => ∃ k : Nat, k + g = 7 ∧ i = .int .i64 k ∧ Below wh.heap.size wh wr)
      case atStart => exact ⟨0, by omega, rfl, Below.refl _ _⟩
      case round =>
        obtain ⟨k, hkg, rfl, hb⟩ := hrel
        have HBQ := Lib.hid hb
        clear hb
        cases gk with
        | zero =>
          obtain rfl : k = 7 := by omega
          clear hkg
          go_wp2_with fail
          go_ret
          exact ⟨rfl, HB17.out.trans (HBQ.out.mono HB17.out.size)⟩
        | succ g =>
          have hk7 : k < 7 := by omega
          have hk7' : decide ((k : Int) < 7) = true := by simp; omega
          have HG := Lib.hid hkg
          clear hkg
          have hN1 := HH.out.upto HBQ.out
          obtain ⟨b, off, hAe, hbw, hcc⟩ := hN1 (by have := HHS.out; omega)
          injection hAe with hAe
          injection hAe with hAe1 hAe2
          subst hAe1 hAe2
          have f0 := hcc k (by have := HHS.out; omega)
          rw [Nat.zero_add] at f0
          clear hcc hN1
          generalize hs.getD k 0 = hx at *
          have S1 := Lib.hid (fun w hl => ahead_any A0 c0 l hx w hl (by omega))
          have T1 := Lib.hid (fun w hl => ahead_any An cn nl hx w hl (by omega))
          rw [HSAME.out [1] hx] at T1
          have q1 := affL_length [1] l hx
          generalize affL [1] l hx = r1 at *
          have S2 := Lib.hid (fun w hl => now_any A0 c0 l hx w hl (by omega))
          have T2 := Lib.hid (fun w hl => now_any An cn nl hx w hl (by omega))
          rw [HSAME.out [1, 2] hx] at T2
          have q2 := affL_length [1, 2] l hx
          generalize affL [1, 2] l hx = r2 at *
          have S3 := Lib.hid (fun w hl => trips_any A0 c0 l hx w hl (by omega))
          have T3 := Lib.hid (fun w hl => trips_any An cn nl hx w hl (by omega))
          rw [HSAME.out [3] hx] at T3
          have q3 := affL_length [3] l hx
          generalize affL [3] l hx = r3 at *
          have HLq := Lib.hid (HL.out.upto HBQ.out)
          have Hnq := Lib.hid (Hn.out.upto HBQ.out)
          go_wp2_with fail
          refine (S1.out _ HLq.out).mono ?_
          rintro e wq1 ⟨v, rfl, hown, hb⟩
          obtain ⟨Aa, ca, rfl, hI⟩ := ownsRow_ints hown
          have HIa := Lib.hid hI
          replace HLq := Lib.hid (HLq.out.upto hb)
          replace Hnq := Lib.hid (Hnq.out.upto hb)
          have HQ1 := Lib.hid (HBQ.out.trans (hb.mono HBQ.out.size))
          clear hb HBQ hown hI
          go_wp2_with fail
          refine (T1.out _ Hnq.out).mono ?_
          rintro e wq2 ⟨v, rfl, hown, hb⟩
          obtain ⟨Ab, cb, rfl, hI⟩ := ownsRow_ints hown
          have HIb := Lib.hid hI
          replace HLq := Lib.hid (HLq.out.upto hb)
          replace Hnq := Lib.hid (Hnq.out.upto hb)
          replace HIa := Lib.hid (HIa.out.upto hb)
          have HQ2 := Lib.hid (HQ1.out.trans (hb.mono HQ1.out.size))
          clear hb HQ1 hown hI
          go_wp2_with fail
          refine (ints_same Aa Ab ca cb r1 _ HIa.out HIb.out (by omega)).mono ?_
          rintro e wq3 ⟨rfl, hb⟩
          replace HLq := Lib.hid (HLq.out.upto hb)
          replace Hnq := Lib.hid (Hnq.out.upto hb)
          have HQ3 := Lib.hid (HQ2.out.trans (hb.mono HQ2.out.size))
          clear hb HQ2 HIa HIb
          go_wp2_with fail
          refine (S2.out _ HLq.out).mono ?_
          rintro e wq4 ⟨v, rfl, hown, hb⟩
          obtain ⟨Aa, ca, rfl, hI⟩ := ownsRow_ints hown
          have HIa := Lib.hid hI
          replace HLq := Lib.hid (HLq.out.upto hb)
          replace Hnq := Lib.hid (Hnq.out.upto hb)
          have HQ4 := Lib.hid (HQ3.out.trans (hb.mono HQ3.out.size))
          clear hb HQ3 hown hI
          go_wp2_with fail
          refine (T2.out _ Hnq.out).mono ?_
          rintro e wq5 ⟨v, rfl, hown, hb⟩
          obtain ⟨Ab, cb, rfl, hI⟩ := ownsRow_ints hown
          have HIb := Lib.hid hI
          replace HLq := Lib.hid (HLq.out.upto hb)
          replace Hnq := Lib.hid (Hnq.out.upto hb)
          replace HIa := Lib.hid (HIa.out.upto hb)
          have HQ5 := Lib.hid (HQ4.out.trans (hb.mono HQ4.out.size))
          clear hb HQ4 hown hI
          go_wp2_with fail
          refine (ints_same Aa Ab ca cb r2 _ HIa.out HIb.out (by omega)).mono ?_
          rintro e wq6 ⟨rfl, hb⟩
          replace HLq := Lib.hid (HLq.out.upto hb)
          replace Hnq := Lib.hid (Hnq.out.upto hb)
          have HQ6 := Lib.hid (HQ5.out.trans (hb.mono HQ5.out.size))
          clear hb HQ5 HIa HIb
          go_wp2_with fail
          refine (S3.out _ HLq.out).mono ?_
          rintro e wq7 ⟨v, rfl, hown, hb⟩
          obtain ⟨Aa, ca, rfl, hI⟩ := ownsRow_ints hown
          have HIa := Lib.hid hI
          replace HLq := Lib.hid (HLq.out.upto hb)
          replace Hnq := Lib.hid (Hnq.out.upto hb)
          have HQ7 := Lib.hid (HQ6.out.trans (hb.mono HQ6.out.size))
          clear hb HQ6 hown hI
          go_wp2_with fail
          refine (T3.out _ Hnq.out).mono ?_
          rintro e wq8 ⟨v, rfl, hown, hb⟩
          obtain ⟨Ab, cb, rfl, hI⟩ := ownsRow_ints hown
          have HIb := Lib.hid hI
          replace HLq := Lib.hid (HLq.out.upto hb)
          replace Hnq := Lib.hid (Hnq.out.upto hb)
          replace HIa := Lib.hid (HIa.out.upto hb)
          have HQ8 := Lib.hid (HQ7.out.trans (hb.mono HQ7.out.size))
          clear hb HQ7 hown hI
          go_wp2_with fail
          refine (ints_same Aa Ab ca cb r3 _ HIa.out HIb.out (by omega)).mono ?_
          rintro e wq9 ⟨rfl, hb⟩
          replace HLq := Lib.hid (HLq.out.upto hb)
          replace Hnq := Lib.hid (Hnq.out.upto hb)
          have HQ9 := Lib.hid (HQ8.out.trans (hb.mono HQ8.out.size))
          clear hb HQ8 HIa HIb
          go_wp2_with fail
          go_roundg g
          case measure => omega
          case rel => exact ⟨k + 1, by have := HG.out; omega, by go_num, HQ9.out⟩
end Go.Proofs.Ytklfijhlibpmaaa
