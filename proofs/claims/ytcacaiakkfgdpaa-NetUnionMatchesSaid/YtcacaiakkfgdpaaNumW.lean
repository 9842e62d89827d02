/- The walk of NetUnionMatches. -/
import Derived.Test.YtcacaiakkfgdpaaAwkN
import Derived.Test.YtcacaiakkfgdpaaLawC
namespace Go.Proofs.Ytcacaiakkfgdpaa
open Go.RowKit
set_option linter.unusedVariables false

set_option maxRecDepth 100000 in
set_option maxHeartbeats 8000000 in
theorem num_walk (A : Option Addr) (c : Nat) (a : List Int) (A' : Option Addr) (c' : Nat) (b : List Int) (w : World) (hca : a.length ≤ c) (ha : IntsR w w.heap.size A a) (hcb : b.length ≤ c') (hb : IntsR w w.heap.size A' b) :
    Calls Try.prog 4 #[.slice A a.length c, .slice A' b.length c'] w fun e w' => e = .returned (.bool true) ∧ Below w.heap.size w w' := by
  have Ha := Lib.hid ha
  have Hb := Lib.hid hb
  clear ha hb
  have kl := fun W b' hb' => long_lit2 (.int .i64 0) none 0 0 25 W b' hb' A A' a.length c b.length c'
  cases hlong : longB [a.length, b.length] 0 with
  | true =>
    rw [hlong] at kl
    have KL := Lib.hid kl
    clear kl hlong hca hcb
    have HB0 := Lib.hid (Below.refl w.heap.size w)
    go_enter Try.func4, Try.ntmps4
    go_wp2_with fail
    have hb : Below w.heap.size w (w.alloc (.cells #[.slice A a.length c, .slice A' b.length c'] 25)) := (Below.refl _ _).alloc (Nat.le_refl _) _
    have HB1 := Lib.hid (HB0.out.trans (hb.mono HB0.out.size))
    clear HB0
    replace Ha := Lib.hid (Ha.out.upto hb)
    replace Hb := Lib.hid (Hb.out.upto hb)
    clear hb
    refine (KL.out w _ rfl).mono ?_
    rintro e w2 ⟨rfl, hb⟩
    rw [← World.size_alloc w (.cells #[.slice A a.length c, .slice A' b.length c'] 25)] at hb
    have HB2 := Lib.hid (HB1.out.trans (hb.mono HB1.out.size))
    clear HB1
    replace Ha := Lib.hid (Ha.out.upto hb)
    replace Hb := Lib.hid (Hb.out.upto hb)
    clear hb
    go_wp2_with fail
    refine (awake14_any _).mono ?_
    rintro e w3 ⟨rfl, hb⟩
    have HB3 := Lib.hid (HB2.out.trans (hb.mono HB2.out.size))
    clear HB2
    replace Ha := Lib.hid (Ha.out.upto hb)
    replace Hb := Lib.hid (Hb.out.upto hb)
    clear hb
    go_wp2_with fail
    go_ret
    exact ⟨rfl, HB3.out⟩
  | false =>
    rw [hlong] at kl
    have hb100 := longB_false hlong
    have h1 : a.length ≤ 100 := hb100.1 _ (by simp)
    have h2 : b.length ≤ 100 := hb100.1 _ (by simp)
    have KL := Lib.hid kl
    clear kl hlong hb100
    have kca := fun W h => copy_any A c a W h (by omega)
    have kcb := fun W h => copy_any A' c' b W h (by omega)
    have kra := fun W h => rises_any A c a W h (by omega)
    have krb := fun W h => rises_any A' c' b W h (by omega)
    have ku := fun X Y cx cy W hx hy => union_any X Y cx cy a b W hx hy (by omega) (by omega)
    have kia := fun X Y cx cy W hx hy => ints_same X Y cx cy a W hx hy (by omega)
    have kib := fun X Y cx cy W hx hy => ints_same X Y cx cy b W hx hy (by omega)
    have KCA := Lib.hid kca
    have KCB := Lib.hid kcb
    have KIA := Lib.hid kia
    have KIB := Lib.hid kib
    clear kca kcb kia kib
    by_cases ea : ascB a = true
    · rw [ea] at kra
      by_cases eb : ascB b = true
      · rw [eb] at krb
        have hul : (unionL a b).length ≤ 200 := by have := unionL_length a b; omega
        rw [uniL, uniE, if_pos ⟨ea, eb⟩, if_pos ⟨ea, eb⟩] at ku
        have kb := fun W hx hy => both_any A A' c c' a b W hx hy hca hcb (by omega) (by omega)
        rw [both_union ea eb] at kb
        clear ea eb hca hcb
        generalize unionL a b = ul at *
        have kii := fun X Y cx cy W hx hy => ints_same X Y cx cy ul W hx hy (by omega)
        have KRA := Lib.hid kra
        have KRB := Lib.hid krb
        have KU := Lib.hid ku
        have KB := Lib.hid kb
        have KII := Lib.hid kii
        clear kra krb ku kb kii
        have HB0 := Lib.hid (Below.refl w.heap.size w)
        go_enter Try.func4, Try.ntmps4
        go_wp2_with fail
        have hb : Below w.heap.size w (w.alloc (.cells #[.slice A a.length c, .slice A' b.length c'] 25)) := (Below.refl _ _).alloc (Nat.le_refl _) _
        have HB1 := Lib.hid (HB0.out.trans (hb.mono HB0.out.size))
        clear HB0
        replace Ha := Lib.hid (Ha.out.upto hb)
        replace Hb := Lib.hid (Hb.out.upto hb)
        clear hb
        refine (KL.out w _ rfl).mono ?_
        rintro e w2 ⟨rfl, hb⟩
        rw [← World.size_alloc w (.cells #[.slice A a.length c, .slice A' b.length c'] 25)] at hb
        have HB2 := Lib.hid (HB1.out.trans (hb.mono HB1.out.size))
        clear HB1
        replace Ha := Lib.hid (Ha.out.upto hb)
        replace Hb := Lib.hid (Hb.out.upto hb)
        clear hb
        go_wp2_with fail
        refine (KCA.out _ Ha.out).mono ?_
        rintro e w3 ⟨v, rfl, hown, hb⟩
        obtain ⟨Ax, cx, rfl, hI⟩ := ownsRow_ints hown
        have HIx := Lib.hid hI
        clear hown hI
        have HB3 := Lib.hid (HB2.out.trans (hb.mono HB2.out.size))
        clear HB2
        replace Ha := Lib.hid (Ha.out.upto hb)
        replace Hb := Lib.hid (Hb.out.upto hb)
        clear hb
        go_wp2_with fail
        refine (KCB.out _ Hb.out).mono ?_
        rintro e w4 ⟨v, rfl, hown, hb⟩
        obtain ⟨Ay, cy, rfl, hI⟩ := ownsRow_ints hown
        have HIy := Lib.hid hI
        clear hown hI
        have HB4 := Lib.hid (HB3.out.trans (hb.mono HB3.out.size))
        clear HB3
        replace Ha := Lib.hid (Ha.out.upto hb)
        replace Hb := Lib.hid (Hb.out.upto hb)
        replace HIx := Lib.hid (HIx.out.upto hb)
        clear hb
        go_wp2_with fail
        refine (KRA.out _ Ha.out).mono ?_
        rintro e w5 ⟨rfl, hb⟩
        have HB5 := Lib.hid (HB4.out.trans (hb.mono HB4.out.size))
        clear HB4
        replace Ha := Lib.hid (Ha.out.upto hb)
        replace Hb := Lib.hid (Hb.out.upto hb)
        replace HIx := Lib.hid (HIx.out.upto hb)
        replace HIy := Lib.hid (HIy.out.upto hb)
        clear hb
        go_wp2_with fail
        refine (KRB.out _ Hb.out).mono ?_
        rintro e w6 ⟨rfl, hb⟩
        have HB6 := Lib.hid (HB5.out.trans (hb.mono HB5.out.size))
        clear HB5
        replace Ha := Lib.hid (Ha.out.upto hb)
        replace Hb := Lib.hid (Hb.out.upto hb)
        replace HIx := Lib.hid (HIx.out.upto hb)
        replace HIy := Lib.hid (HIy.out.upto hb)
        clear hb
        go_wp2_with fail
        go_loopg [8, 9, 10] 2 (fun g i s9 s10 wr => ∃ k : Nat, k + g = 2 ∧ i = .int .i64 k ∧ IntsR wr wr.heap.size A a ∧ IntsR wr wr.heap.size A' b ∧ IntsR wr wr.heap.size Ax a ∧ IntsR wr wr.heap.size Ay b ∧ Below w.heap.size w wr)
        case atStart => exact ⟨0, by omega, rfl, Ha.out, Hb.out, HIx.out, HIy.out, HB6.out⟩
        case round =>
          clear Ha Hb HIx HIy HB6
          obtain ⟨k, hkg, rfl, h1a, h1b, h1x, h1y, hbel⟩ := hrel
          have Ha := Lib.hid h1a
          have Ha0 := Lib.hid h1a
          have Hb := Lib.hid h1b
          have Hb0 := Lib.hid h1b
          have HIx := Lib.hid h1x
          have HIx0 := Lib.hid h1x
          have HIy := Lib.hid h1y
          have HIy0 := Lib.hid h1y
          have HBW := Lib.hid hbel
          clear h1a h1b h1x h1y hbel
          cases gk with
          | zero =>
            obtain rfl : k = 2 := by omega
            clear hkg Ha0 Hb0 HIx0 HIy0
            go_wp2_with fail
            refine (awake14_any _).mono ?_
            rintro e w50 ⟨rfl, hb⟩
            have HB50 := Lib.hid (HBW.out.trans (hb.mono HBW.out.size))
            clear HBW
            clear hb
            go_wp2_with fail
            go_ret
            exact ⟨rfl, HB50.out⟩
          | succ g =>
            have hk : k < 2 := by omega
            have HG := Lib.hid hkg
            clear hkg
            have HR0 := Lib.hid (Below.refl wr.heap.size wr)
            go_wp2_with fail
            refine (KU.out _ _ _ _ _ HIx.out HIy.out).mono ?_
            rintro e w60 ⟨v, rfl, hown, hb⟩
            obtain ⟨Al, cl, rfl, hI⟩ := ownsRow_ints hown
            have HIl := Lib.hid hI
            have HSl := Lib.hid (Spoils.own hown (Nat.le_refl _))
            clear hown hI
            have HB60 := Lib.hid (HR0.out.trans (hb.mono HR0.out.size))
            clear HR0
            replace Ha := Lib.hid (Ha.out.upto hb)
            replace Hb := Lib.hid (Hb.out.upto hb)
            replace HIx := Lib.hid (HIx.out.upto hb)
            replace HIy := Lib.hid (HIy.out.upto hb)
            clear hb
            go_wp2_with fail
            refine (KB.out _ Ha.out Hb.out).mono ?_
            rintro e w61 ⟨v, rfl, hown, hb⟩
            obtain ⟨At, ct, rfl, hI⟩ := ownsRow_ints hown
            have HIt := Lib.hid hI
            clear hown hI
            have HB61 := Lib.hid (HB60.out.trans (hb.mono HB60.out.size))
            clear HB60
            replace Ha := Lib.hid (Ha.out.upto hb)
            replace Hb := Lib.hid (Hb.out.upto hb)
            replace HIx := Lib.hid (HIx.out.upto hb)
            replace HIy := Lib.hid (HIy.out.upto hb)
            replace HIl := Lib.hid (HIl.out.upto hb)
            replace HSl := Lib.hid (HSl.out.upto hb)
            clear hb
            go_wp2_with fail
            refine (KII.out _ _ _ _ _ HIl.out HIt.out).mono ?_
            rintro e w62 ⟨rfl, hb⟩
            have HB62 := Lib.hid (HB61.out.trans (hb.mono HB61.out.size))
            clear HB61
            replace Ha := Lib.hid (Ha.out.upto hb)
            replace Hb := Lib.hid (Hb.out.upto hb)
            replace HIx := Lib.hid (HIx.out.upto hb)
            replace HIy := Lib.hid (HIy.out.upto hb)
            replace HIl := Lib.hid (HIl.out.upto hb)
            replace HSl := Lib.hid (HSl.out.upto hb)
            replace HIt := Lib.hid (HIt.out.upto hb)
            clear hb
            go_wp2_with fail
            refine (KIA.out _ _ _ _ _ HIx.out Ha.out).mono ?_
            rintro e w63 ⟨rfl, hb⟩
            have HB63 := Lib.hid (HB62.out.trans (hb.mono HB62.out.size))
            clear HB62
            replace Ha := Lib.hid (Ha.out.upto hb)
            replace Hb := Lib.hid (Hb.out.upto hb)
            replace HIx := Lib.hid (HIx.out.upto hb)
            replace HIy := Lib.hid (HIy.out.upto hb)
            replace HIl := Lib.hid (HIl.out.upto hb)
            replace HSl := Lib.hid (HSl.out.upto hb)
            replace HIt := Lib.hid (HIt.out.upto hb)
            clear hb
            go_wp2_with fail
            refine (KIB.out _ _ _ _ _ HIy.out Hb.out).mono ?_
            rintro e w64 ⟨rfl, hb⟩
            have HB64 := Lib.hid (HB63.out.trans (hb.mono HB63.out.size))
            clear HB63
            replace Ha := Lib.hid (Ha.out.upto hb)
            replace Hb := Lib.hid (Hb.out.upto hb)
            replace HIx := Lib.hid (HIx.out.upto hb)
            replace HIy := Lib.hid (HIy.out.upto hb)
            replace HIl := Lib.hid (HIl.out.upto hb)
            replace HSl := Lib.hid (HSl.out.upto hb)
            replace HIt := Lib.hid (HIt.out.upto hb)
            clear hb
            go_wp2_with fail
            have hsp := HSl.out
            rw [Nat.mul_one] at hsp
            refine (spoil_one wr.heap.size Al ul.length cl 25 w64 hsp HB64.out.size (by omega)).mono ?_
            rintro e wS ⟨⟨vS, rfl⟩, hb, _⟩
            have hbt := HB64.out.trans hb
            clear hb hsp HSl
            go_wp2_with fail
            go_roundg g
            case measure => omega
            case rel => exact ⟨k + 1, by have := HG.out; omega, by go_num, Ha0.out.upto hbt, Hb0.out.upto hbt, HIx0.out.upto hbt, HIy0.out.upto hbt, HBW.out.trans (hbt.mono HBW.out.size)⟩
      · have eb' : ascB b = false := by simpa using eb
        rw [eb'] at krb
        rw [uniL, uniE, if_neg (fun h => eb h.2), if_neg (fun h => eb h.2)] at ku
        clear ea eb eb' hca hcb
        have KRA := Lib.hid kra
        have KRB := Lib.hid krb
        have KU := Lib.hid ku
        clear kra krb ku
        have HB0 := Lib.hid (Below.refl w.heap.size w)
        go_enter Try.func4, Try.ntmps4
        go_wp2_with fail
        have hb : Below w.heap.size w (w.alloc (.cells #[.slice A a.length c, .slice A' b.length c'] 25)) := (Below.refl _ _).alloc (Nat.le_refl _) _
        have HB1 := Lib.hid (HB0.out.trans (hb.mono HB0.out.size))
        clear HB0
        replace Ha := Lib.hid (Ha.out.upto hb)
        replace Hb := Lib.hid (Hb.out.upto hb)
        clear hb
        refine (KL.out w _ rfl).mono ?_
        rintro e w2 ⟨rfl, hb⟩
        rw [← World.size_alloc w (.cells #[.slice A a.length c, .slice A' b.length c'] 25)] at hb
        have HB2 := Lib.hid (HB1.out.trans (hb.mono HB1.out.size))
        clear HB1
        replace Ha := Lib.hid (Ha.out.upto hb)
        replace Hb := Lib.hid (Hb.out.upto hb)
        clear hb
        go_wp2_with fail
        refine (KCA.out _ Ha.out).mono ?_
        rintro e w3 ⟨v, rfl, hown, hb⟩
        obtain ⟨Ax, cx, rfl, hI⟩ := ownsRow_ints hown
        have HIx := Lib.hid hI
        clear hown hI
        have HB3 := Lib.hid (HB2.out.trans (hb.mono HB2.out.size))
        clear HB2
        replace Ha := Lib.hid (Ha.out.upto hb)
        replace Hb := Lib.hid (Hb.out.upto hb)
        clear hb
        go_wp2_with fail
        refine (KCB.out _ Hb.out).mono ?_
        rintro e w4 ⟨v, rfl, hown, hb⟩
        obtain ⟨Ay, cy, rfl, hI⟩ := ownsRow_ints hown
        have HIy := Lib.hid hI
        clear hown hI
        have HB4 := Lib.hid (HB3.out.trans (hb.mono HB3.out.size))
        clear HB3
        replace Ha := Lib.hid (Ha.out.upto hb)
        replace Hb := Lib.hid (Hb.out.upto hb)
        replace HIx := Lib.hid (HIx.out.upto hb)
        clear hb
        go_wp2_with fail
        refine (KRA.out _ Ha.out).mono ?_
        rintro e w5 ⟨rfl, hb⟩
        have HB5 := Lib.hid (HB4.out.trans (hb.mono HB4.out.size))
        clear HB4
        replace Ha := Lib.hid (Ha.out.upto hb)
        replace Hb := Lib.hid (Hb.out.upto hb)
        replace HIx := Lib.hid (HIx.out.upto hb)
        replace HIy := Lib.hid (HIy.out.upto hb)
        clear hb
        go_wp2_with fail
        refine (KRB.out _ Hb.out).mono ?_
        rintro e w6 ⟨rfl, hb⟩
        have HB6 := Lib.hid (HB5.out.trans (hb.mono HB5.out.size))
        clear HB5
        replace Ha := Lib.hid (Ha.out.upto hb)
        replace Hb := Lib.hid (Hb.out.upto hb)
        replace HIx := Lib.hid (HIx.out.upto hb)
        replace HIy := Lib.hid (HIy.out.upto hb)
        clear hb
        go_wp2_with fail
        go_loopg [8, 9, 10] 2 (fun g i s9 s10 wr => ∃ k : Nat, k + g = 2 ∧ i = .int .i64 k ∧ IntsR wr wr.heap.size A a ∧ IntsR wr wr.heap.size A' b ∧ IntsR wr wr.heap.size Ax a ∧ IntsR wr wr.heap.size Ay b ∧ Below w.heap.size w wr)
        case atStart => exact ⟨0, by omega, rfl, Ha.out, Hb.out, HIx.out, HIy.out, HB6.out⟩
        case round =>
          clear Ha Hb HIx HIy HB6
          obtain ⟨k, hkg, rfl, h1a, h1b, h1x, h1y, hbel⟩ := hrel
          have Ha := Lib.hid h1a
          have Ha0 := Lib.hid h1a
          have Hb := Lib.hid h1b
          have Hb0 := Lib.hid h1b
          have HIx := Lib.hid h1x
          have HIx0 := Lib.hid h1x
          have HIy := Lib.hid h1y
          have HIy0 := Lib.hid h1y
          have HBW := Lib.hid hbel
          clear h1a h1b h1x h1y hbel
          cases gk with
          | zero =>
            obtain rfl : k = 2 := by omega
            clear hkg Ha0 Hb0 HIx0 HIy0
            go_wp2_with fail
            refine (awake14_any _).mono ?_
            rintro e w50 ⟨rfl, hb⟩
            have HB50 := Lib.hid (HBW.out.trans (hb.mono HBW.out.size))
            clear HBW
            clear hb
            go_wp2_with fail
            go_ret
            exact ⟨rfl, HB50.out⟩
          | succ g =>
            have hk : k < 2 := by omega
            have HG := Lib.hid hkg
            clear hkg
            have HR0 := Lib.hid (Below.refl wr.heap.size wr)
            go_wp2_with fail
            refine (KU.out _ _ _ _ _ HIx.out HIy.out).mono ?_
            rintro e w60 ⟨v, rfl, hown, hb⟩
            obtain ⟨Al, cl, rfl, hI⟩ := ownsRow_ints hown
            have HIl := Lib.hid hI
            have HSl := Lib.hid (Spoils.own hown (Nat.le_refl _))
            clear hown hI
            have HB60 := Lib.hid (HR0.out.trans (hb.mono HR0.out.size))
            clear HR0
            replace Ha := Lib.hid (Ha.out.upto hb)
            replace Hb := Lib.hid (Hb.out.upto hb)
            replace HIx := Lib.hid (HIx.out.upto hb)
            replace HIy := Lib.hid (HIy.out.upto hb)
            clear hb
            go_wp2_with fail
            refine (KIA.out _ _ _ _ _ HIx.out Ha.out).mono ?_
            rintro e w61 ⟨rfl, hb⟩
            have HB61 := Lib.hid (HB60.out.trans (hb.mono HB60.out.size))
            clear HB60
            replace Ha := Lib.hid (Ha.out.upto hb)
            replace Hb := Lib.hid (Hb.out.upto hb)
            replace HIx := Lib.hid (HIx.out.upto hb)
            replace HIy := Lib.hid (HIy.out.upto hb)
            replace HIl := Lib.hid (HIl.out.upto hb)
            replace HSl := Lib.hid (HSl.out.upto hb)
            clear hb
            go_wp2_with fail
            refine (KIB.out _ _ _ _ _ HIy.out Hb.out).mono ?_
            rintro e w62 ⟨rfl, hb⟩
            have HB62 := Lib.hid (HB61.out.trans (hb.mono HB61.out.size))
            clear HB61
            replace Ha := Lib.hid (Ha.out.upto hb)
            replace Hb := Lib.hid (Hb.out.upto hb)
            replace HIx := Lib.hid (HIx.out.upto hb)
            replace HIy := Lib.hid (HIy.out.upto hb)
            replace HIl := Lib.hid (HIl.out.upto hb)
            replace HSl := Lib.hid (HSl.out.upto hb)
            clear hb
            go_wp2_with fail
            have hsp := HSl.out
            rw [Nat.mul_one] at hsp
            refine (spoil_one wr.heap.size Al 0 cl 25 w62 hsp HB62.out.size (by simp)).mono ?_
            rintro e wS ⟨⟨vS, rfl⟩, hb, _⟩
            have hbt := HB62.out.trans hb
            clear hb hsp HSl
            go_wp2_with fail
            go_roundg g
            case measure => omega
            case rel => exact ⟨k + 1, by have := HG.out; omega, by go_num, Ha0.out.upto hbt, Hb0.out.upto hbt, HIx0.out.upto hbt, HIy0.out.upto hbt, HBW.out.trans (hbt.mono HBW.out.size)⟩
    · have ea' : ascB a = false := by simpa using ea
      rw [ea'] at kra
      rw [uniL, uniE, if_neg (fun h => ea h.1), if_neg (fun h => ea h.1)] at ku
      clear ea ea' hca hcb krb
      have KRA := Lib.hid kra
      have KU := Lib.hid ku
      clear kra ku
      have HB0 := Lib.hid (Below.refl w.heap.size w)
      go_enter Try.func4, Try.ntmps4
      go_wp2_with fail
      have hb : Below w.heap.size w (w.alloc (.cells #[.slice A a.length c, .slice A' b.length c'] 25)) := (Below.refl _ _).alloc (Nat.le_refl _) _
      have HB1 := Lib.hid (HB0.out.trans (hb.mono HB0.out.size))
      clear HB0
      replace Ha := Lib.hid (Ha.out.upto hb)
      replace Hb := Lib.hid (Hb.out.upto hb)
      clear hb
      refine (KL.out w _ rfl).mono ?_
      rintro e w2 ⟨rfl, hb⟩
      rw [← World.size_alloc w (.cells #[.slice A a.length c, .slice A' b.length c'] 25)] at hb
      have HB2 := Lib.hid (HB1.out.trans (hb.mono HB1.out.size))
      clear HB1
      replace Ha := Lib.hid (Ha.out.upto hb)
      replace Hb := Lib.hid (Hb.out.upto hb)
      clear hb
      go_wp2_with fail
      refine (KCA.out _ Ha.out).mono ?_
      rintro e w3 ⟨v, rfl, hown, hb⟩
      obtain ⟨Ax, cx, rfl, hI⟩ := ownsRow_ints hown
      have HIx := Lib.hid hI
      clear hown hI
      have HB3 := Lib.hid (HB2.out.trans (hb.mono HB2.out.size))
      clear HB2
      replace Ha := Lib.hid (Ha.out.upto hb)
      replace Hb := Lib.hid (Hb.out.upto hb)
      clear hb
      go_wp2_with fail
      refine (KCB.out _ Hb.out).mono ?_
      rintro e w4 ⟨v, rfl, hown, hb⟩
      obtain ⟨Ay, cy, rfl, hI⟩ := ownsRow_ints hown
      have HIy := Lib.hid hI
      clear hown hI
      have HB4 := Lib.hid (HB3.out.trans (hb.mono HB3.out.size))
      clear HB3
      replace Ha := Lib.hid (Ha.out.upto hb)
      replace Hb := Lib.hid (Hb.out.upto hb)
      replace HIx := Lib.hid (HIx.out.upto hb)
      clear hb
      go_wp2_with fail
      refine (KRA.out _ Ha.out).mono ?_
      rintro e w5 ⟨rfl, hb⟩
      have HB5 := Lib.hid (HB4.out.trans (hb.mono HB4.out.size))
      clear HB4
      replace Ha := Lib.hid (Ha.out.upto hb)
      replace Hb := Lib.hid (Hb.out.upto hb)
      replace HIx := Lib.hid (HIx.out.upto hb)
      replace HIy := Lib.hid (HIy.out.upto hb)
      clear hb
      go_wp2_with fail
      go_loopg [8, 9, 10] 2 (fun g i s9 s10 wr => ∃ k : Nat, k + g = 2 ∧ i = .int .i64 k ∧ IntsR wr wr.heap.size A a ∧ IntsR wr wr.heap.size A' b ∧ IntsR wr wr.heap.size Ax a ∧ IntsR wr wr.heap.size Ay b ∧ Below w.heap.size w wr)
      case atStart => exact ⟨0, by omega, rfl, Ha.out, Hb.out, HIx.out, HIy.out, HB5.out⟩
      case round =>
        clear Ha Hb HIx HIy HB5
        obtain ⟨k, hkg, rfl, h1a, h1b, h1x, h1y, hbel⟩ := hrel
        have Ha := Lib.hid h1a
        have Ha0 := Lib.hid h1a
        have Hb := Lib.hid h1b
        have Hb0 := Lib.hid h1b
        have HIx := Lib.hid h1x
        have HIx0 := Lib.hid h1x
        have HIy := Lib.hid h1y
        have HIy0 := Lib.hid h1y
        have HBW := Lib.hid hbel
        clear h1a h1b h1x h1y hbel
        cases gk with
        | zero =>
          obtain rfl : k = 2 := by omega
          clear hkg Ha0 Hb0 HIx0 HIy0
          go_wp2_with fail
          refine (awake14_any _).mono ?_
          rintro e w50 ⟨rfl, hb⟩
          have HB50 := Lib.hid (HBW.out.trans (hb.mono HBW.out.size))
          clear HBW
          clear hb
          go_wp2_with fail
          go_ret
          exact ⟨rfl, HB50.out⟩
        | succ g =>
          have hk : k < 2 := by omega
          have HG := Lib.hid hkg
          clear hkg
          have HR0 := Lib.hid (Below.refl wr.heap.size wr)
          go_wp2_with fail
          refine (KU.out _ _ _ _ _ HIx.out HIy.out).mono ?_
          rintro e w60 ⟨v, rfl, hown, hb⟩
          obtain ⟨Al, cl, rfl, hI⟩ := ownsRow_ints hown
          have HIl := Lib.hid hI
          have HSl := Lib.hid (Spoils.own hown (Nat.le_refl _))
          clear hown hI
          have HB60 := Lib.hid (HR0.out.trans (hb.mono HR0.out.size))
          clear HR0
          replace Ha := Lib.hid (Ha.out.upto hb)
          replace Hb := Lib.hid (Hb.out.upto hb)
          replace HIx := Lib.hid (HIx.out.upto hb)
          replace HIy := Lib.hid (HIy.out.upto hb)
          clear hb
          go_wp2_with fail
          refine (KIA.out _ _ _ _ _ HIx.out Ha.out).mono ?_
          rintro e w61 ⟨rfl, hb⟩
          have HB61 := Lib.hid (HB60.out.trans (hb.mono HB60.out.size))
          clear HB60
          replace Ha := Lib.hid (Ha.out.upto hb)
          replace Hb := Lib.hid (Hb.out.upto hb)
          replace HIx := Lib.hid (HIx.out.upto hb)
          replace HIy := Lib.hid (HIy.out.upto hb)
          replace HIl := Lib.hid (HIl.out.upto hb)
          replace HSl := Lib.hid (HSl.out.upto hb)
          clear hb
          go_wp2_with fail
          refine (KIB.out _ _ _ _ _ HIy.out Hb.out).mono ?_
          rintro e w62 ⟨rfl, hb⟩
          have HB62 := Lib.hid (HB61.out.trans (hb.mono HB61.out.size))
          clear HB61
          replace Ha := Lib.hid (Ha.out.upto hb)
          replace Hb := Lib.hid (Hb.out.upto hb)
          replace HIx := Lib.hid (HIx.out.upto hb)
          replace HIy := Lib.hid (HIy.out.upto hb)
          replace HIl := Lib.hid (HIl.out.upto hb)
          replace HSl := Lib.hid (HSl.out.upto hb)
          clear hb
          go_wp2_with fail
          have hsp := HSl.out
          rw [Nat.mul_one] at hsp
          refine (spoil_one wr.heap.size Al 0 cl 25 w62 hsp HB62.out.size (by simp)).mono ?_
          rintro e wS ⟨⟨vS, rfl⟩, hb, _⟩
          have hbt := HB62.out.trans hb
          clear hb hsp HSl
          go_wp2_with fail
          go_roundg g
          case measure => omega
          case rel => exact ⟨k + 1, by have := HG.out; omega, by go_num, Ha0.out.upto hbt, Hb0.out.upto hbt, HIx0.out.upto hbt, HIy0.out.upto hbt, HBW.out.trans (hbt.mono HBW.out.size)⟩
end Go.Proofs.Ytcacaiakkfgdpaa
