/- pylonref21.Normal. -/
import Derived.Test.YtklfijhlibpmaaaRnP
import Derived.Test.YtklfijhlibpmaaaAnyT
namespace Go.Proofs.Ytklfijhlibpmaaa
open Go.RowKit
set_option linter.unusedVariables false

set_option maxRecDepth 100000 in
set_option maxHeartbeats 32000000 in
theorem refnorm_any (A : Option Addr) (c : Nat) (l : List Og) (w : World) (hl : OgsR w w.heap.size A l) (hb : OgBs l) (hm : l.length ≤ 1000000) :
    Calls Try.prog 12 #[.slice A l.length c] w (OgE w (ogN l)) := by
  obtain ⟨i0, hi, hz0, hz1, hz2⟩ := info_parts info_og
  have HL := Lib.hid hl
  have HOB := Lib.hid hb
  clear hl hb
  go_enter Try.func12, Try.ntmps12
  go_wp2_with fail
  go_loopg [3, 4, 5, 6] l.length (fun g s3 i s5 s6 wr => ∃ (k : Nat) (A3 : Option Addr) (c3 : Nat), k + g = l.length ∧ i = .int .i64 k ∧ s3 = .slice A3 (ogSrt l k).length c3 ∧ (ogSrt l k).length ≤ c3 ∧ OgsR wr wr.heap.size A3 (ogSrt l k) ∧ Below w.heap.size w wr)
  case atStart => exact ⟨0, none, 0, by omega, rfl, rfl, Nat.le_refl _, OgsR.nil_, Below.refl _ _⟩
  case round =>
    obtain ⟨k, A3, c3, hkg, rfl, rfl, hc3, hS, hbw⟩ := hrel
    have HS := Lib.hid hS
    have HB := Lib.hid hbw
    have hsz := hbw.size
    have hlen := ogSrt_length l k
    clear hS hbw
    cases gk with
    | zero =>
      obtain rfl : k = l.length := by omega
      clear hkg
      have HTB := Lib.hid (ogSrt_b HOB.out l.length (Nat.le_refl _))
      have HTO := Lib.hid (show ogTo (ogSrt l l.length) (ogSrt l l.length).length = ogN l from ogTo_all _)
      generalize ogSrt l l.length = ts at *
      obtain ⟨w3, hw3⟩ : ∃ w3, w3 = wr := ⟨_, rfl⟩
      rw [← hw3] at HS HB hsz ⊢
      clear hw3 wr
      go_wp2_with fail
      go_loopg [7, 8, 9] ts.length (fun g s7 i s9 wr => ∃ k : Nat, k + g = ts.length ∧ i = .int .i64 k ∧ wr.ownsRow w3.heap.size 27 4 s7 (ogTo ts k).length (ogCells (ogTo ts k)) ∧ Below w3.heap.size w3 wr)
      case atStart => exact ⟨0, by omega, rfl, World.ownsRow_nil _ _ _ _, Below.refl _ _⟩
      case round =>
        obtain ⟨k, hkg, rfl, hrow, hbw⟩ := hrel
        have HR := Lib.hid hrow
        have HBW := Lib.hid hbw
        have hsw := hbw.size
        have hal := ogTo_length ts k (by omega)
        have hab := ogTo_b HTB.out k (by omega)
        clear hrow hbw
        cases gk with
        | zero =>
          obtain rfl : k = ts.length := by omega
          clear hkg
          rw [HTO.out] at HR
          go_wp2_with fail
          go_ret
          exact ⟨_, rfl, ownsRow_base HR.out hsz, HB.out.trans (HBW.out.mono hsz)⟩
        | succ g =>
          have hk : k < ts.length := by omega
          have HG := Lib.hid hkg
          clear hkg
          obtain ⟨b, off, hAt, hbl, hcc⟩ := HS.out (by omega)
          obtain ⟨e0, e1, e2, e3⟩ := hcc k hk
          have f0 := (HBW.out.cell (p := ⟨b, off + k * 4, none⟩) hbl).trans e0
          have f1 := (HBW.out.cell (p := ⟨b, off + k * 4 + 1, none⟩) hbl).trans e1
          have f2 := (HBW.out.cell (p := ⟨b, off + k * 4 + 2, none⟩) hbl).trans e2
          have f3 := (HBW.out.cell (p := ⟨b, off + k * 4 + 3, none⟩) hbl).trans e3
          have hbw : b < wr.heap.size := by omega
          clear e0 e1 e2 e3 hcc
          have hst := ogTo_succ ts k hk
          have hob := HTB.out.at_ k
          obtain ⟨o, hgl⟩ : ∃ o, ts.getD k (0, 0, 0, 0) = o := ⟨_, rfl⟩
          rw [hgl] at f0 f1 f2 f3 hst hob
          clear hgl
          obtain ⟨ok, ox, of', ot⟩ := o
          simp only at f0 f1 f2 f3
          obtain ⟨acc, hacc⟩ : ∃ acc, ogTo ts k = acc := ⟨_, rfl⟩
          rw [hacc] at HR hal hab hst
          clear hacc
          subst hAt
          by_cases hem : acc = []
          · subst hem
            obtain ⟨Av, cv, rfl, _⟩ := ownsRow_ogs HR.out
            have hst2 : ogTo ts (k + 1) = [] ++ [(ok, ox, of', ot)] := by rw [hst]; simp [ogStep]
            have HST := Lib.hid hst2
            clear hst hst2
            simp only [List.length_nil] at HR ⊢
            go_wp2_with fail
            refine region_calls (w0 := wr) (fun jq => match jq with | 0 => .int .i64 0 | 1 => .bool false | 2 => .bool false | 3 => undef | 4 => undef | 5 => undef | 6 => undef | 7 => undef | 8 => undef | 9 => undef | 10 => undef | 11 => undef | 12 => undef | 13 => .bool false | _ => undef) (by kernel_rfl) (by kernel_rfl) ?_ ?_
            · intro iq oq ho aq W hI hdep hrest hgd
              have r9 : aq.eval (.tmp 9) = .int .i64 0 := hrest 9 (apart_of (by kernel_rfl))
              have hc : ∀ v, aq.eval (.const v) = v := fun _ => rfl
              have hfn : ∀ f, aq.eval (.func f) = .func (.func f) #[] #[] := fun _ => rfl
              clear hrest
              rcases iq with _ | _ | _ | _ | _ | _ | _ | _ | _ | _ | _ | _ | _ | _ | iq
              · injection ho with ho
                subst ho
                clear hdep hgd
                refine ⟨fun _ => .inl ?_, fun hw => (by simp [Region.wanted] at hw)⟩
                clear hI
                generalize aq.eval = ρ at *
                simp [go_sem, r9]
              · injection ho with ho
                subst ho
                have d0 : aq.eval (.tmp 68) = .int .i64 0 := hdep ⟨0, .data⟩ (by simp) rfl _ _ rfl rfl
                clear hdep hgd
                refine ⟨fun _ => .inl ?_, fun hw => (by simp [Region.wanted] at hw)⟩
                clear hI
                generalize aq.eval = ρ at *
                simp [go_sem, d0, hc]
              · injection ho with ho
                subst ho
                have d1 : aq.eval (.tmp 69) = .bool false := hdep ⟨1, .data⟩ (by simp) rfl _ _ rfl rfl
                clear hdep hgd
                refine ⟨fun _ => .inl ?_, fun hw => (by simp [Region.wanted] at hw)⟩
                clear hI
                generalize aq.eval = ρ at *
                simp [go_sem, d1]
              · injection ho with ho
                subst ho
                have h8 : aq.tmps.getD 70 undef = .bool false := hdep ⟨2, .guard⟩ (by simp) rfl _ _ rfl rfl
                have hwd := hgd 2 true rfl _ _ rfl rfl false h8
                exact ⟨fun hw => (by rw [hwd] at hw; cases hw), fun _ => rfl⟩
              · injection ho with ho
                subst ho
                have h8 : aq.tmps.getD 70 undef = .bool false := hdep ⟨2, .guard⟩ (by simp) rfl _ _ rfl rfl
                have hwd := hgd 2 true rfl _ _ rfl rfl false h8
                exact ⟨fun hw => (by rw [hwd] at hw; cases hw), fun _ => rfl⟩
              · injection ho with ho
                subst ho
                have h8 : aq.tmps.getD 70 undef = .bool false := hdep ⟨2, .guard⟩ (by simp) rfl _ _ rfl rfl
                have hwd := hgd 2 true rfl _ _ rfl rfl false h8
                exact ⟨fun hw => (by rw [hwd] at hw; cases hw), fun _ => rfl⟩
              · injection ho with ho
                subst ho
                have h8 : aq.tmps.getD 70 undef = .bool false := hdep ⟨2, .guard⟩ (by simp) rfl _ _ rfl rfl
                have hwd := hgd 2 true rfl _ _ rfl rfl false h8
                exact ⟨fun hw => (by rw [hwd] at hw; cases hw), fun _ => rfl⟩
              · injection ho with ho
                subst ho
                have h8 : aq.tmps.getD 70 undef = .bool false := hdep ⟨2, .guard⟩ (by simp) rfl _ _ rfl rfl
                have hwd := hgd 2 true rfl _ _ rfl rfl false h8
                exact ⟨fun hw => (by rw [hwd] at hw; cases hw), fun _ => rfl⟩
              · injection ho with ho
                subst ho
                have h8 : aq.tmps.getD 70 undef = .bool false := hdep ⟨2, .guard⟩ (by simp) rfl _ _ rfl rfl
                have hwd := hgd 2 true rfl _ _ rfl rfl false h8
                exact ⟨fun hw => (by rw [hwd] at hw; cases hw), fun _ => rfl⟩
              · injection ho with ho
                subst ho
                have h8 : aq.tmps.getD 70 undef = .bool false := hdep ⟨2, .guard⟩ (by simp) rfl _ _ rfl rfl
                have hwd := hgd 2 true rfl _ _ rfl rfl false h8
                exact ⟨fun hw => (by rw [hwd] at hw; cases hw), fun _ => rfl⟩
              · injection ho with ho
                subst ho
                have h8 : aq.tmps.getD 70 undef = .bool false := hdep ⟨2, .guard⟩ (by simp) rfl _ _ rfl rfl
                have hwd := hgd 2 true rfl _ _ rfl rfl false h8
                exact ⟨fun hw => (by rw [hwd] at hw; cases hw), fun _ => rfl⟩
              · injection ho with ho
                subst ho
                have h8 : aq.tmps.getD 70 undef = .bool false := hdep ⟨2, .guard⟩ (by simp) rfl _ _ rfl rfl
                have hwd := hgd 2 true rfl _ _ rfl rfl false h8
                exact ⟨fun hw => (by rw [hwd] at hw; cases hw), fun _ => rfl⟩
              · injection ho with ho
                subst ho
                have h8 : aq.tmps.getD 70 undef = .bool false := hdep ⟨2, .guard⟩ (by simp) rfl _ _ rfl rfl
                have hwd := hgd 2 true rfl _ _ rfl rfl false h8
                exact ⟨fun hw => (by rw [hwd] at hw; cases hw), fun _ => rfl⟩
              · injection ho with ho
                subst ho
                have d2 : aq.eval (.tmp 70) = .bool false := hdep ⟨2, .data⟩ (by simp) rfl _ _ rfl rfl
                clear hdep hgd
                refine ⟨fun _ => .inl ?_, fun hw => (by simp [Region.wanted] at hw)⟩
                clear hI
                generalize aq.eval = ρ at *
                simp [go_sem, d2, hc]
              · simp at ho
            intro wx hb
            simp only [putAll, Act.put, List.setIfInBounds_toArray, List.set_cons_zero, List.set_cons_succ, Nat.reduceAdd]
            have HB2 := Lib.hid (HBW.out.trans (hb.mono (B' := w3.heap.size) hsw))
            have f0' := (hb.cell (p := ⟨b, off + k * 4, none⟩) hbw).trans f0
            have f1' := (hb.cell (p := ⟨b, off + k * 4 + 1, none⟩) hbw).trans f1
            have f2' := (hb.cell (p := ⟨b, off + k * 4 + 2, none⟩) hbw).trans f2
            have f3' := (hb.cell (p := ⟨b, off + k * 4 + 3, none⟩) hbw).trans f3
            have HR2 := Lib.hid (ownsRow_below HR.out hb)
            have hsx := HB2.out.size
            clear hb f0 f1 f2 f3
            go_wp2_with (at_builtin; refine wpList_append_any _ rfl (.tmp 99) (.tmp 104) _ rfl w3.heap.size 27 i0 _ 4 32 Try.underlying22 hi hz0 hz1 hz2 rfl (by omega) (.slice Av 0 cv) 0 [] rfl (HR2.out.alloc _) (some ⟨wx.heap.size, 0, none⟩) 1 1 (ogCells [(ok, ox, of', ot)]) rfl (OgsR.lit wx 27 [(ok, ox, of', ot)] _ rfl).toSrc (one_ogs _) (by simp only [maxLen]; omega) (by omega) (by simp; omega) ?_; intro v1 w1 hown1 hg1 _)
            have hb3 := below_of_row (HB2.out.alloc hsx (.cells #[.int .u8 ok, .int .i64 ox, .int .i64 of', .int .i64 ot] 27)) (HR2.out.alloc _) (Nat.le_refl _) hg1 (by simp; omega)
            have HB4 := Lib.hid hb3
            have HO1 := Lib.hid hown1
            clear hb3 hown1 hg1
            go_roundg g
            case measure => omega
            case rel => exact ⟨k + 1, by have := HG.out; omega, by go_num, by rw [HST.out]; simpa [ogCells_append] using HO1.out, HB4.out⟩
          · have hpos : 0 < acc.length := List.length_pos_iff.2 hem
            rcases HR.out.2 with ⟨rfl, h0⟩ | ⟨gr, cap, cur, rfl, hgb, hgh, r1, r2, r3, r4⟩
            · omega
            have hcell : ∀ j, j < acc.length * 4 → wr.cell? ⟨gr, j, none⟩ = (ogCells acc)[j]? := fun j hj => HR.out.cellAt j hj
            have hgr : gr < wr.heap.size := (Array.getElem?_eq_some_iff.1 hgh).1
            obtain ⟨n, hn⟩ : ∃ n, acc.length = n + 1 := ⟨acc.length - 1, by omega⟩
            obtain ⟨d0, d1, d2, d3⟩ := ogCells_at acc n (by omega)
            have c0 := (hcell (n * 4) (by omega)).trans d0
            have c1 := (hcell (n * 4 + 1) (by omega)).trans d1
            have c2 := (hcell (n * 4 + 2) (by omega)).trans d2
            have cc3 := (hcell (n * 4 + 3) (by omega)).trans d3
            have hset := ogCells_set acc n
            have hstep : ogStep acc (ok, ox, of', ot) = if ogJoin (acc.getD n (0, 0, 0, 0)) (ok, ox, of', ot) then acc.set n (ogMax (acc.getD n (0, 0, 0, 0)) (ok, ox, of', ot)) else acc ++ [(ok, ox, of', ot)] := by
              unfold ogStep
              rw [show acc.length - 1 = n by omega]
              by_cases h : ogJoin (acc.getD n (0, 0, 0, 0)) (ok, ox, of', ot)
              · rw [if_pos ⟨hpos, h⟩, if_pos h]
              · rw [if_neg (fun h' => h h'.2), if_neg h]
            have hlb := hab.at_ n
            obtain ⟨la, hla⟩ : ∃ la, acc.getD n (0, 0, 0, 0) = la := ⟨_, rfl⟩
            rw [hla] at c0 c1 c2 cc3 hset hstep hlb
            obtain ⟨lk, lx, lf, lt⟩ := la
            simp only at c0 c1 c2 cc3 hset
            have hj0 := fun W => touch_any (lk, lx, lf, lt) (ok, ox, of', ot) hlb hob W
            rw [hstep] at hst
            have hnm : n < acc.length := by omega
            have hmp : 0 < acc.length := by omega
            have hsub : IntKind.i64.wrap ((acc.length : Int) - 1) = (n : Int) := by rw [IntWalk.i64_in _ (by omega)]; omega
            have HSET := Lib.hid (fun m => hset m hnm)
            have hml : acc.length ≤ 1000000 := by omega
            clear hcell d0 d1 d2 d3 hset hstep hla hn hgh r1 r2 r3 r4 hem hpos
            by_cases hjn : ogJoin (lk, lx, lf, lt) (ok, ox, of', ot)
            · rw [if_pos hjn] at hst
              rw [decide_eq_true hjn] at hj0
              have hj : ∀ W, Calls Try.prog 29 #[.agg #[.int .u8 lk, .int .i64 lx, .int .i64 lf, .int .i64 lt], .agg #[.int .u8 ok, .int .i64 ox, .int .i64 of', .int .i64 ot]] W fun e w' => e = .returned (.bool true) ∧ Below W.heap.size W w' := fun W => (hj0 W).mono fun e w' ⟨he, hw⟩ => ⟨he, by rw [hw]; exact twoOg_below _ _ _⟩
              have HST := Lib.hid hst
              clear hj0 hst hjn
              generalize hmm : acc.length = mm at *
              have HMM := Lib.hid hmm
              clear hmm
              go_wp2_with fail
              refine region_calls (w0 := wr) (fun jq => match jq with | 0 => .int .i64 (mm : Int) | 1 => .bool true | 2 => .bool true | 3 => .slice (some ⟨gr, 0, none⟩) mm cap | 4 => .int .i64 (mm : Int) | 5 => .int .i64 (n : Int) | 6 => .pointer (some ⟨gr, n * 4, none⟩) | 7 => .agg #[.int .u8 lk, .int .i64 lx, .int .i64 lf, .int .i64 lt] | 8 => .slice (some ⟨b, off, none⟩) ts.length c3 | 9 => .int .i64 (k : Int) | 10 => .pointer (some ⟨b, off + k * 4, none⟩) | 11 => .agg #[.int .u8 ok, .int .i64 ox, .int .i64 of', .int .i64 ot] | 12 => .bool true | 13 => .bool true | _ => undef) (by kernel_rfl) (by kernel_rfl) ?_ ?_
              · intro iq oq ho aq W hI hdep hrest hgd
                have r9 : aq.eval (.tmp 9) = .int .i64 (mm : Int) := hrest 9 (apart_of (by kernel_rfl))
                have r7 : aq.eval (.tmp 7) = .slice (some ⟨gr, 0, none⟩) mm cap := hrest 7 (apart_of (by kernel_rfl))
                have r3 : aq.eval (.tmp 3) = .slice (some ⟨b, off, none⟩) ts.length c3 := hrest 3 (apart_of (by kernel_rfl))
                have r8 : aq.eval (.tmp 8) = .int .i64 (k : Int) := hrest 8 (apart_of (by kernel_rfl))
                have hc : ∀ v, aq.eval (.const v) = v := fun _ => rfl
                have hfn : ∀ f, aq.eval (.func f) = .func (.func f) #[] #[] := fun _ => rfl
                clear hrest
                rcases iq with _ | _ | _ | _ | _ | _ | _ | _ | _ | _ | _ | _ | _ | _ | iq
                · injection ho with ho
                  subst ho
                  clear hdep hgd
                  refine ⟨fun _ => .inl ?_, fun hw => (by simp [Region.wanted] at hw)⟩
                  clear hI
                  generalize aq.eval = ρ at *
                  simp [go_sem, r9]
                · injection ho with ho
                  subst ho
                  have d0 : aq.eval (.tmp 68) = .int .i64 (mm : Int) := hdep ⟨0, .data⟩ (by simp) rfl _ _ rfl rfl
                  clear hdep hgd
                  refine ⟨fun _ => .inl ?_, fun hw => (by simp [Region.wanted] at hw)⟩
                  clear hI
                  generalize aq.eval = ρ at *
                  simp [go_sem, d0, hc, hmp]
                · injection ho with ho
                  subst ho
                  have d1 : aq.eval (.tmp 69) = .bool true := hdep ⟨1, .data⟩ (by simp) rfl _ _ rfl rfl
                  clear hdep hgd
                  refine ⟨fun _ => .inl ?_, fun hw => (by simp [Region.wanted] at hw)⟩
                  clear hI
                  generalize aq.eval = ρ at *
                  simp [go_sem, d1]
                · injection ho with ho
                  subst ho
                  have h8 : aq.tmps.getD 70 undef = .bool true := hdep ⟨2, .guard⟩ (by simp) rfl _ _ rfl rfl
                  have hwd := hgd 2 true rfl _ _ rfl rfl true h8
                  clear hdep hgd
                  refine ⟨fun _ => .inl ?_, fun hw => (by rw [hwd] at hw; cases hw)⟩
                  clear h8 hwd
                  clear hI
                  generalize aq.eval = ρ at *
                  simp [go_sem, r7]
                · injection ho with ho
                  subst ho
                  have h8 : aq.tmps.getD 70 undef = .bool true := hdep ⟨2, .guard⟩ (by simp) rfl _ _ rfl rfl
                  have hwd := hgd 2 true rfl _ _ rfl rfl true h8
                  clear hdep hgd
                  refine ⟨fun _ => .inl ?_, fun hw => (by rw [hwd] at hw; cases hw)⟩
                  clear h8 hwd
                  clear hI
                  generalize aq.eval = ρ at *
                  simp [go_sem, r9]
                · injection ho with ho
                  subst ho
                  have d4 : aq.eval (.tmp 72) = .int .i64 (mm : Int) := hdep ⟨4, .data⟩ (by simp) rfl _ _ rfl rfl
                  have h8 : aq.tmps.getD 70 undef = .bool true := hdep ⟨2, .guard⟩ (by simp) rfl _ _ rfl rfl
                  have hwd := hgd 2 true rfl _ _ rfl rfl true h8
                  clear hdep hgd
                  refine ⟨fun _ => .inl ?_, fun hw => (by rw [hwd] at hw; cases hw)⟩
                  clear h8 hwd
                  clear hI
                  generalize aq.eval = ρ at *
                  simp [go_sem, d4, hc, hsub]
                · injection ho with ho
                  subst ho
                  have d3 : aq.eval (.tmp 71) = .slice (some ⟨gr, 0, none⟩) mm cap := hdep ⟨3, .data⟩ (by simp) rfl _ _ rfl rfl
                  have d5 : aq.eval (.tmp 73) = .int .i64 (n : Int) := hdep ⟨5, .data⟩ (by simp) rfl _ _ rfl rfl
                  have h8 : aq.tmps.getD 70 undef = .bool true := hdep ⟨2, .guard⟩ (by simp) rfl _ _ rfl rfl
                  have hwd := hgd 2 true rfl _ _ rfl rfl true h8
                  clear hdep hgd
                  refine ⟨fun _ => .inl ?_, fun hw => (by rw [hwd] at hw; cases hw)⟩
                  clear h8 hwd
                  clear hI
                  generalize aq.eval = ρ at *
                  simp [go_sem, d3, d5, hnm]
                · injection ho with ho
                  subst ho
                  have d6 : aq.eval (.tmp 74) = .pointer (some ⟨gr, n * 4, none⟩) := hdep ⟨6, .data⟩ (by simp) rfl _ _ rfl rfl
                  have h8 : aq.tmps.getD 70 undef = .bool true := hdep ⟨2, .guard⟩ (by simp) rfl _ _ rfl rfl
                  have hwd := hgd 2 true rfl _ _ rfl rfl true h8
                  clear hdep hgd
                  have c0' : W.cell? ⟨gr, n * 4, none⟩ = _ := (hI.cell (p := ⟨gr, n * 4, none⟩) hgr).trans c0
                  have c1' : W.cell? ⟨gr, n * 4 + 1, none⟩ = _ := (hI.cell (p := ⟨gr, n * 4 + 1, none⟩) hgr).trans c1
                  have c2' : W.cell? ⟨gr, n * 4 + 2, none⟩ = _ := (hI.cell (p := ⟨gr, n * 4 + 2, none⟩) hgr).trans c2
                  have c3q : W.cell? ⟨gr, n * 4 + 3, none⟩ = _ := (hI.cell (p := ⟨gr, n * 4 + 3, none⟩) hgr).trans cc3
                  refine ⟨fun _ => .inl ?_, fun hw => (by rw [hwd] at hw; cases hw)⟩
                  clear h8 hwd
                  clear hI
                  generalize aq.eval = ρ at *
                  simp [go_sem, d6, c0', c1', c2', c3q]
                · injection ho with ho
                  subst ho
                  have h8 : aq.tmps.getD 70 undef = .bool true := hdep ⟨2, .guard⟩ (by simp) rfl _ _ rfl rfl
                  have hwd := hgd 2 true rfl _ _ rfl rfl true h8
                  clear hdep hgd
                  refine ⟨fun _ => .inl ?_, fun hw => (by rw [hwd] at hw; cases hw)⟩
                  clear h8 hwd
                  clear hI
                  generalize aq.eval = ρ at *
                  simp [go_sem, r3]
                · injection ho with ho
                  subst ho
                  have h8 : aq.tmps.getD 70 undef = .bool true := hdep ⟨2, .guard⟩ (by simp) rfl _ _ rfl rfl
                  have hwd := hgd 2 true rfl _ _ rfl rfl true h8
                  clear hdep hgd
                  refine ⟨fun _ => .inl ?_, fun hw => (by rw [hwd] at hw; cases hw)⟩
                  clear h8 hwd
                  clear hI
                  generalize aq.eval = ρ at *
                  simp [go_sem, r8]
                · injection ho with ho
                  subst ho
                  have d8 : aq.eval (.tmp 76) = .slice (some ⟨b, off, none⟩) ts.length c3 := hdep ⟨8, .data⟩ (by simp) rfl _ _ rfl rfl
                  have d9 : aq.eval (.tmp 77) = .int .i64 (k : Int) := hdep ⟨9, .data⟩ (by simp) rfl _ _ rfl rfl
                  have h8 : aq.tmps.getD 70 undef = .bool true := hdep ⟨2, .guard⟩ (by simp) rfl _ _ rfl rfl
                  have hwd := hgd 2 true rfl _ _ rfl rfl true h8
                  clear hdep hgd
                  refine ⟨fun _ => .inl ?_, fun hw => (by rw [hwd] at hw; cases hw)⟩
                  clear h8 hwd
                  clear hI
                  generalize aq.eval = ρ at *
                  simp [go_sem, d8, d9, hk]
                · injection ho with ho
                  subst ho
                  have d10 : aq.eval (.tmp 78) = .pointer (some ⟨b, off + k * 4, none⟩) := hdep ⟨10, .data⟩ (by simp) rfl _ _ rfl rfl
                  have h8 : aq.tmps.getD 70 undef = .bool true := hdep ⟨2, .guard⟩ (by simp) rfl _ _ rfl rfl
                  have hwd := hgd 2 true rfl _ _ rfl rfl true h8
                  clear hdep hgd
                  have f0' : W.cell? ⟨b, off + k * 4, none⟩ = _ := (hI.cell (p := ⟨b, off + k * 4, none⟩) hbw).trans f0
                  have f1' : W.cell? ⟨b, off + k * 4 + 1, none⟩ = _ := (hI.cell (p := ⟨b, off + k * 4 + 1, none⟩) hbw).trans f1
                  have f2' : W.cell? ⟨b, off + k * 4 + 2, none⟩ = _ := (hI.cell (p := ⟨b, off + k * 4 + 2, none⟩) hbw).trans f2
                  have f3' : W.cell? ⟨b, off + k * 4 + 3, none⟩ = _ := (hI.cell (p := ⟨b, off + k * 4 + 3, none⟩) hbw).trans f3
                  refine ⟨fun _ => .inl ?_, fun hw => (by rw [hwd] at hw; cases hw)⟩
                  clear h8 hwd
                  clear hI
                  generalize aq.eval = ρ at *
                  simp [go_sem, d10, f0', f1', f2', f3']
                · injection ho with ho
                  subst ho
                  have d7 : aq.eval (.tmp 75) = .agg #[.int .u8 lk, .int .i64 lx, .int .i64 lf, .int .i64 lt] := hdep ⟨7, .data⟩ (by simp) rfl _ _ rfl rfl
                  have d11 : aq.eval (.tmp 79) = .agg #[.int .u8 ok, .int .i64 ox, .int .i64 of', .int .i64 ot] := hdep ⟨11, .data⟩ (by simp) rfl _ _ rfl rfl
                  have h8 : aq.tmps.getD 70 undef = .bool true := hdep ⟨2, .guard⟩ (by simp) rfl _ _ rfl rfl
                  have hwd := hgd 2 true rfl _ _ rfl rfl true h8
                  clear hdep hgd
                  refine ⟨fun _ => .inr ⟨29, #[.agg #[.int .u8 lk, .int .i64 lx, .int .i64 lf, .int .i64 lt], .agg #[.int .u8 ok, .int .i64 ox, .int .i64 of', .int .i64 ot]], ?_, hj W⟩, fun hw => (by rw [hwd] at hw; cases hw)⟩
                  clear h8 hwd
                  clear hI
                  generalize aq.eval = ρ at *
                  simp [go_sem, d7, d11, hfn]
                · injection ho with ho
                  subst ho
                  have d2 : aq.eval (.tmp 70) = .bool true := hdep ⟨2, .data⟩ (by simp) rfl _ _ rfl rfl
                  have d12 : aq.eval (.tmp 80) = .bool true := hdep ⟨12, .data⟩ (by simp) rfl _ _ rfl rfl
                  clear hdep hgd
                  refine ⟨fun _ => .inl ?_, fun hw => (by simp [Region.wanted] at hw)⟩
                  clear hI
                  generalize aq.eval = ρ at *
                  simp [go_sem, d2, d12]
                · simp at ho
              intro wx hb
              simp only [putAll, Act.put, List.setIfInBounds_toArray, List.set_cons_zero, List.set_cons_succ, Nat.reduceAdd]
              clear hj
              have HR2 := Lib.hid (ownsRow_below HR.out hb)
              have HB2 := Lib.hid (HBW.out.trans (hb.mono (B' := w3.heap.size) hsw))
              replace cc3 := (hb.cell (p := ⟨gr, n * 4 + 3, none⟩) hgr).trans cc3
              replace f3 := (hb.cell (p := ⟨b, off + k * 4 + 3, none⟩) hbw).trans f3
              clear c0 c1 c2 f0 f1 f2 hb
              have hfz : wx.frozen? ⟨gr, n * 4 + 3, none⟩ = false := HR2.out.frozenAt _
              obtain ⟨mx, hmx0⟩ : ∃ mx, max lt ot = mx := ⟨_, rfl⟩
              go_wp2_with fail
              refine region_store2 (w0 := wx) (w1 := wx.drew.setCell ⟨gr, n * 4 + 3, none⟩ (.int .i64 mx)) 17 (fun jq => match jq with | 0 => .slice (some ⟨gr, 0, none⟩) mm cap | 1 => .int .i64 (mm : Int) | 2 => .int .i64 (n : Int) | 3 => .slice (some ⟨gr, 0, none⟩) mm cap | 4 => .int .i64 (mm : Int) | 5 => .int .i64 (n : Int) | 6 => .pointer (some ⟨gr, n * 4, none⟩) | 7 => .pointer (some ⟨gr, n * 4 + 3, none⟩) | 8 => .int .i64 lt | 9 => .slice (some ⟨b, off, none⟩) ts.length c3 | 10 => .int .i64 (k : Int) | 11 => .pointer (some ⟨b, off + k * 4, none⟩) | 12 => .pointer (some ⟨b, off + k * 4 + 3, none⟩) | 13 => .int .i64 ot | 14 => .int .i64 mx | 15 => .pointer (some ⟨gr, n * 4, none⟩) | 16 => .pointer (some ⟨gr, n * 4 + 3, none⟩) | 17 => undef | _ => undef) (by kernel_rfl) (by kernel_rfl) (by kernel_rfl) ?_ rfl ?_
              · intro iq oq ho aq hdep hrest hgd
                have r7 : aq.eval (.tmp 7) = .slice (some ⟨gr, 0, none⟩) mm cap := hrest 7 (apart_of (by kernel_rfl))
                have r9 : aq.eval (.tmp 9) = .int .i64 (mm : Int) := hrest 9 (apart_of (by kernel_rfl))
                have r3 : aq.eval (.tmp 3) = .slice (some ⟨b, off, none⟩) ts.length c3 := hrest 3 (apart_of (by kernel_rfl))
                have r8 : aq.eval (.tmp 8) = .int .i64 (k : Int) := hrest 8 (apart_of (by kernel_rfl))
                have hc : ∀ v, aq.eval (.const v) = v := fun _ => rfl
                have hfn : ∀ f, aq.eval (.func f) = .func (.func f) #[] #[] := fun _ => rfl
                clear hrest
                rcases iq with _ | _ | _ | _ | _ | _ | _ | _ | _ | _ | _ | _ | _ | _ | _ | _ | _ | _ | iq
                · injection ho with ho
                  subst ho
                  clear hdep hgd
                  refine ⟨fun _ => ⟨fun _ => ?_, fun h => absurd h (by decide)⟩, fun hw => (by simp [Region.wanted] at hw)⟩
                  generalize aq.eval = ρ at *
                  simp [go_sem, r7]
                · injection ho with ho
                  subst ho
                  clear hdep hgd
                  refine ⟨fun _ => ⟨fun _ => ?_, fun h => absurd h (by decide)⟩, fun hw => (by simp [Region.wanted] at hw)⟩
                  generalize aq.eval = ρ at *
                  simp [go_sem, r9]
                · injection ho with ho
                  subst ho
                  have d1 : aq.eval (.tmp 83) = .int .i64 (mm : Int) := hdep ⟨1, .data⟩ (by simp) rfl _ _ rfl rfl
                  clear hdep hgd
                  refine ⟨fun _ => ⟨fun _ => ?_, fun h => absurd h (by decide)⟩, fun hw => (by simp [Region.wanted] at hw)⟩
                  generalize aq.eval = ρ at *
                  simp [go_sem, d1, hc, hsub]
                · injection ho with ho
                  subst ho
                  clear hdep hgd
                  refine ⟨fun _ => ⟨fun _ => ?_, fun h => absurd h (by decide)⟩, fun hw => (by simp [Region.wanted] at hw)⟩
                  generalize aq.eval = ρ at *
                  simp [go_sem, r7]
                · injection ho with ho
                  subst ho
                  clear hdep hgd
                  refine ⟨fun _ => ⟨fun _ => ?_, fun h => absurd h (by decide)⟩, fun hw => (by simp [Region.wanted] at hw)⟩
                  generalize aq.eval = ρ at *
                  simp [go_sem, r9]
                · injection ho with ho
                  subst ho
                  have d4 : aq.eval (.tmp 86) = .int .i64 (mm : Int) := hdep ⟨4, .data⟩ (by simp) rfl _ _ rfl rfl
                  clear hdep hgd
                  refine ⟨fun _ => ⟨fun _ => ?_, fun h => absurd h (by decide)⟩, fun hw => (by simp [Region.wanted] at hw)⟩
                  generalize aq.eval = ρ at *
                  simp [go_sem, d4, hc, hsub]
                · injection ho with ho
                  subst ho
                  have d3 : aq.eval (.tmp 85) = .slice (some ⟨gr, 0, none⟩) mm cap := hdep ⟨3, .data⟩ (by simp) rfl _ _ rfl rfl
                  have d5 : aq.eval (.tmp 87) = .int .i64 (n : Int) := hdep ⟨5, .data⟩ (by simp) rfl _ _ rfl rfl
                  clear hdep hgd
                  refine ⟨fun _ => ⟨fun _ => ?_, fun h => absurd h (by decide)⟩, fun hw => (by simp [Region.wanted] at hw)⟩
                  generalize aq.eval = ρ at *
                  simp [go_sem, d3, d5, hnm]
                · injection ho with ho
                  subst ho
                  have d6 : aq.eval (.tmp 88) = .pointer (some ⟨gr, n * 4, none⟩) := hdep ⟨6, .data⟩ (by simp) rfl _ _ rfl rfl
                  clear hdep hgd
                  refine ⟨fun _ => ⟨fun _ => ?_, fun h => absurd h (by decide)⟩, fun hw => (by simp [Region.wanted] at hw)⟩
                  generalize aq.eval = ρ at *
                  simp [go_sem, d6]
                · injection ho with ho
                  subst ho
                  have d7 : aq.eval (.tmp 89) = .pointer (some ⟨gr, n * 4 + 3, none⟩) := hdep ⟨7, .data⟩ (by simp) rfl _ _ rfl rfl
                  clear hdep hgd
                  refine ⟨fun _ => ⟨fun _ => ?_, fun h => absurd h (by decide)⟩, fun hw => (by simp [Region.wanted] at hw)⟩
                  generalize aq.eval = ρ at *
                  simp [go_sem, d7, cc3]
                · injection ho with ho
                  subst ho
                  clear hdep hgd
                  refine ⟨fun _ => ⟨fun _ => ?_, fun h => absurd h (by decide)⟩, fun hw => (by simp [Region.wanted] at hw)⟩
                  generalize aq.eval = ρ at *
                  simp [go_sem, r3]
                · injection ho with ho
                  subst ho
                  clear hdep hgd
                  refine ⟨fun _ => ⟨fun _ => ?_, fun h => absurd h (by decide)⟩, fun hw => (by simp [Region.wanted] at hw)⟩
                  generalize aq.eval = ρ at *
                  simp [go_sem, r8]
                · injection ho with ho
                  subst ho
                  have d9 : aq.eval (.tmp 91) = .slice (some ⟨b, off, none⟩) ts.length c3 := hdep ⟨9, .data⟩ (by simp) rfl _ _ rfl rfl
                  have d10 : aq.eval (.tmp 92) = .int .i64 (k : Int) := hdep ⟨10, .data⟩ (by simp) rfl _ _ rfl rfl
                  clear hdep hgd
                  refine ⟨fun _ => ⟨fun _ => ?_, fun h => absurd h (by decide)⟩, fun hw => (by simp [Region.wanted] at hw)⟩
                  generalize aq.eval = ρ at *
                  simp [go_sem, d9, d10, hk]
                · injection ho with ho
                  subst ho
                  have d11 : aq.eval (.tmp 93) = .pointer (some ⟨b, off + k * 4, none⟩) := hdep ⟨11, .data⟩ (by simp) rfl _ _ rfl rfl
                  clear hdep hgd
                  refine ⟨fun _ => ⟨fun _ => ?_, fun h => absurd h (by decide)⟩, fun hw => (by simp [Region.wanted] at hw)⟩
                  generalize aq.eval = ρ at *
                  simp [go_sem, d11]
                · injection ho with ho
                  subst ho
                  have d12 : aq.eval (.tmp 94) = .pointer (some ⟨b, off + k * 4 + 3, none⟩) := hdep ⟨12, .data⟩ (by simp) rfl _ _ rfl rfl
                  clear hdep hgd
                  refine ⟨fun _ => ⟨fun _ => ?_, fun h => absurd h (by decide)⟩, fun hw => (by simp [Region.wanted] at hw)⟩
                  generalize aq.eval = ρ at *
                  simp [go_sem, d12, f3]
                · injection ho with ho
                  subst ho
                  have d8 : aq.eval (.tmp 90) = .int .i64 lt := hdep ⟨8, .data⟩ (by simp) rfl _ _ rfl rfl
                  have d13 : aq.eval (.tmp 95) = .int .i64 ot := hdep ⟨13, .data⟩ (by simp) rfl _ _ rfl rfl
                  clear hdep hgd
                  refine ⟨fun _ => ⟨fun _ => ?_, fun h => absurd h (by decide)⟩, fun hw => (by simp [Region.wanted] at hw)⟩
                  generalize aq.eval = ρ at *
                  simp [go_sem, d8, d13, hmx0]
                · injection ho with ho
                  subst ho
                  have d0 : aq.eval (.tmp 82) = .slice (some ⟨gr, 0, none⟩) mm cap := hdep ⟨0, .data⟩ (by simp) rfl _ _ rfl rfl
                  have d2 : aq.eval (.tmp 84) = .int .i64 (n : Int) := hdep ⟨2, .data⟩ (by simp) rfl _ _ rfl rfl
                  clear hdep hgd
                  refine ⟨fun _ => ⟨fun _ => ?_, fun h => absurd h (by decide)⟩, fun hw => (by simp [Region.wanted] at hw)⟩
                  generalize aq.eval = ρ at *
                  simp [go_sem, d0, d2, hnm]
                · injection ho with ho
                  subst ho
                  have d15 : aq.eval (.tmp 97) = .pointer (some ⟨gr, n * 4, none⟩) := hdep ⟨15, .data⟩ (by simp) rfl _ _ rfl rfl
                  clear hdep hgd
                  refine ⟨fun _ => ⟨fun _ => ?_, fun h => absurd h (by decide)⟩, fun hw => (by simp [Region.wanted] at hw)⟩
                  generalize aq.eval = ρ at *
                  simp [go_sem, d15]
                · injection ho with ho
                  subst ho
                  have d16 : aq.eval (.tmp 98) = .pointer (some ⟨gr, n * 4 + 3, none⟩) := hdep ⟨16, .data⟩ (by simp) rfl _ _ rfl rfl
                  have d14 : aq.eval (.tmp 96) = .int .i64 mx := hdep ⟨14, .data⟩ (by simp) rfl _ _ rfl rfl
                  clear hdep hgd
                  refine ⟨fun _ => ⟨fun h => absurd rfl h, fun _ => ?_⟩, fun hw => (by simp [Region.wanted] at hw)⟩
                  generalize aq.eval = ρ at *
                  simp [go_sem, d16, d14, cc3, hfz]
                · simp at ho
              simp only [putAll, Act.put, List.setIfInBounds_toArray, List.set_cons_zero, List.set_cons_succ, Nat.reduceAdd]
              have HO3 := Lib.hid ((show wx.drew.ownsRow _ _ _ _ _ _ from HR2.out).stored (n * 4 + 3) (.int .i64 mx))
              have HB3' := Lib.hid ((show Below w3.heap.size w3 wx.drew from HB2.out.drew).setCell (p := ⟨gr, n * 4 + 3, none⟩) (by exact hgb) (.int .i64 mx))
              have HMX := Lib.hid hmx0
              clear hmx0 cc3 f3 hfz
              generalize wx.drew.setCell ⟨gr, n * 4 + 3, none⟩ (.int .i64 mx) = wq at *
              go_wp2_with fail
              go_roundg g
              case measure => omega
              case rel =>
                refine ⟨k + 1, by have := HG.out; omega, by go_num, ?_, HB3'.out⟩
                have h1 := HO3.out
                rw [HSET.out mx] at h1
                rw [HST.out, List.length_set, HMM.out]
                have : ogMax (lk, lx, lf, lt) (ok, ox, of', ot) = (lk, lx, lf, mx) := by unfold ogMax; simp only; rw [HMX.out]
                rw [this]
                exact h1.1
            · rw [if_neg hjn] at hst
              rw [decide_eq_false hjn] at hj0
              have hj : ∀ W, Calls Try.prog 29 #[.agg #[.int .u8 lk, .int .i64 lx, .int .i64 lf, .int .i64 lt], .agg #[.int .u8 ok, .int .i64 ox, .int .i64 of', .int .i64 ot]] W fun e w' => e = .returned (.bool false) ∧ Below W.heap.size W w' := fun W => (hj0 W).mono fun e w' ⟨he, hw⟩ => ⟨he, by rw [hw]; exact twoOg_below _ _ _⟩
              have HST := Lib.hid hst
              clear hj0 hst hjn
              generalize hmm : acc.length = mm at *
              have HMM := Lib.hid hmm
              clear hmm
              go_wp2_with fail
              refine region_calls (w0 := wr) (fun jq => match jq with | 0 => .int .i64 (mm : Int) | 1 => .bool true | 2 => .bool true | 3 => .slice (some ⟨gr, 0, none⟩) mm cap | 4 => .int .i64 (mm : Int) | 5 => .int .i64 (n : Int) | 6 => .pointer (some ⟨gr, n * 4, none⟩) | 7 => .agg #[.int .u8 lk, .int .i64 lx, .int .i64 lf, .int .i64 lt] | 8 => .slice (some ⟨b, off, none⟩) ts.length c3 | 9 => .int .i64 (k : Int) | 10 => .pointer (some ⟨b, off + k * 4, none⟩) | 11 => .agg #[.int .u8 ok, .int .i64 ox, .int .i64 of', .int .i64 ot] | 12 => .bool false | 13 => .bool false | _ => undef) (by kernel_rfl) (by kernel_rfl) ?_ ?_
              · intro iq oq ho aq W hI hdep hrest hgd
                have r9 : aq.eval (.tmp 9) = .int .i64 (mm : Int) := hrest 9 (apart_of (by kernel_rfl))
                have r7 : aq.eval (.tmp 7) = .slice (some ⟨gr, 0, none⟩) mm cap := hrest 7 (apart_of (by kernel_rfl))
                have r3 : aq.eval (.tmp 3) = .slice (some ⟨b, off, none⟩) ts.length c3 := hrest 3 (apart_of (by kernel_rfl))
                have r8 : aq.eval (.tmp 8) = .int .i64 (k : Int) := hrest 8 (apart_of (by kernel_rfl))
                have hc : ∀ v, aq.eval (.const v) = v := fun _ => rfl
                have hfn : ∀ f, aq.eval (.func f) = .func (.func f) #[] #[] := fun _ => rfl
                clear hrest
                rcases iq with _ | _ | _ | _ | _ | _ | _ | _ | _ | _ | _ | _ | _ | _ | iq
                · injection ho with ho
                  subst ho
                  clear hdep hgd
                  refine ⟨fun _ => .inl ?_, fun hw => (by simp [Region.wanted] at hw)⟩
                  clear hI
                  generalize aq.eval = ρ at *
                  simp [go_sem, r9]
                · injection ho with ho
                  subst ho
                  have d0 : aq.eval (.tmp 68) = .int .i64 (mm : Int) := hdep ⟨0, .data⟩ (by simp) rfl _ _ rfl rfl
                  clear hdep hgd
                  refine ⟨fun _ => .inl ?_, fun hw => (by simp [Region.wanted] at hw)⟩
                  clear hI
                  generalize aq.eval = ρ at *
                  simp [go_sem, d0, hc, hmp]
                · injection ho with ho
                  subst ho
                  have d1 : aq.eval (.tmp 69) = .bool true := hdep ⟨1, .data⟩ (by simp) rfl _ _ rfl rfl
                  clear hdep hgd
                  refine ⟨fun _ => .inl ?_, fun hw => (by simp [Region.wanted] at hw)⟩
                  clear hI
                  generalize aq.eval = ρ at *
                  simp [go_sem, d1]
                · injection ho with ho
                  subst ho
                  have h8 : aq.tmps.getD 70 undef = .bool true := hdep ⟨2, .guard⟩ (by simp) rfl _ _ rfl rfl
                  have hwd := hgd 2 true rfl _ _ rfl rfl true h8
                  clear hdep hgd
                  refine ⟨fun _ => .inl ?_, fun hw => (by rw [hwd] at hw; cases hw)⟩
                  clear h8 hwd
                  clear hI
                  generalize aq.eval = ρ at *
                  simp [go_sem, r7]
                · injection ho with ho
                  subst ho
                  have h8 : aq.tmps.getD 70 undef = .bool true := hdep ⟨2, .guard⟩ (by simp) rfl _ _ rfl rfl
                  have hwd := hgd 2 true rfl _ _ rfl rfl true h8
                  clear hdep hgd
                  refine ⟨fun _ => .inl ?_, fun hw => (by rw [hwd] at hw; cases hw)⟩
                  clear h8 hwd
                  clear hI
                  generalize aq.eval = ρ at *
                  simp [go_sem, r9]
                · injection ho with ho
                  subst ho
                  have d4 : aq.eval (.tmp 72) = .int .i64 (mm : Int) := hdep ⟨4, .data⟩ (by simp) rfl _ _ rfl rfl
                  have h8 : aq.tmps.getD 70 undef = .bool true := hdep ⟨2, .guard⟩ (by simp) rfl _ _ rfl rfl
                  have hwd := hgd 2 true rfl _ _ rfl rfl true h8
                  clear hdep hgd
                  refine ⟨fun _ => .inl ?_, fun hw => (by rw [hwd] at hw; cases hw)⟩
                  clear h8 hwd
                  clear hI
                  generalize aq.eval = ρ at *
                  simp [go_sem, d4, hc, hsub]
                · injection ho with ho
                  subst ho
                  have d3 : aq.eval (.tmp 71) = .slice (some ⟨gr, 0, none⟩) mm cap := hdep ⟨3, .data⟩ (by simp) rfl _ _ rfl rfl
                  have d5 : aq.eval (.tmp 73) = .int .i64 (n : Int) := hdep ⟨5, .data⟩ (by simp) rfl _ _ rfl rfl
                  have h8 : aq.tmps.getD 70 undef = .bool true := hdep ⟨2, .guard⟩ (by simp) rfl _ _ rfl rfl
                  have hwd := hgd 2 true rfl _ _ rfl rfl true h8
                  clear hdep hgd
                  refine ⟨fun _ => .inl ?_, fun hw => (by rw [hwd] at hw; cases hw)⟩
                  clear h8 hwd
                  clear hI
                  generalize aq.eval = ρ at *
                  simp [go_sem, d3, d5, hnm]
                · injection ho with ho
                  subst ho
                  have d6 : aq.eval (.tmp 74) = .pointer (some ⟨gr, n * 4, none⟩) := hdep ⟨6, .data⟩ (by simp) rfl _ _ rfl rfl
                  have h8 : aq.tmps.getD 70 undef = .bool true := hdep ⟨2, .guard⟩ (by simp) rfl _ _ rfl rfl
                  have hwd := hgd 2 true rfl _ _ rfl rfl true h8
                  clear hdep hgd
                  have c0' : W.cell? ⟨gr, n * 4, none⟩ = _ := (hI.cell (p := ⟨gr, n * 4, none⟩) hgr).trans c0
                  have c1' : W.cell? ⟨gr, n * 4 + 1, none⟩ = _ := (hI.cell (p := ⟨gr, n * 4 + 1, none⟩) hgr).trans c1
                  have c2' : W.cell? ⟨gr, n * 4 + 2, none⟩ = _ := (hI.cell (p := ⟨gr, n * 4 + 2, none⟩) hgr).trans c2
                  have c3q : W.cell? ⟨gr, n * 4 + 3, none⟩ = _ := (hI.cell (p := ⟨gr, n * 4 + 3, none⟩) hgr).trans cc3
                  refine ⟨fun _ => .inl ?_, fun hw => (by rw [hwd] at hw; cases hw)⟩
                  clear h8 hwd
                  clear hI
                  generalize aq.eval = ρ at *
                  simp [go_sem, d6, c0', c1', c2', c3q]
                · injection ho with ho
                  subst ho
                  have h8 : aq.tmps.getD 70 undef = .bool true := hdep ⟨2, .guard⟩ (by simp) rfl _ _ rfl rfl
                  have hwd := hgd 2 true rfl _ _ rfl rfl true h8
                  clear hdep hgd
                  refine ⟨fun _ => .inl ?_, fun hw => (by rw [hwd] at hw; cases hw)⟩
                  clear h8 hwd
                  clear hI
                  generalize aq.eval = ρ at *
                  simp [go_sem, r3]
                · injection ho with ho
                  subst ho
                  have h8 : aq.tmps.getD 70 undef = .bool true := hdep ⟨2, .guard⟩ (by simp) rfl _ _ rfl rfl
                  have hwd := hgd 2 true rfl _ _ rfl rfl true h8
                  clear hdep hgd
                  refine ⟨fun _ => .inl ?_, fun hw => (by rw [hwd] at hw; cases hw)⟩
                  clear h8 hwd
                  clear hI
                  generalize aq.eval = ρ at *
                  simp [go_sem, r8]
                · injection ho with ho
                  subst ho
                  have d8 : aq.eval (.tmp 76) = .slice (some ⟨b, off, none⟩) ts.length c3 := hdep ⟨8, .data⟩ (by simp) rfl _ _ rfl rfl
                  have d9 : aq.eval (.tmp 77) = .int .i64 (k : Int) := hdep ⟨9, .data⟩ (by simp) rfl _ _ rfl rfl
                  have h8 : aq.tmps.getD 70 undef = .bool true := hdep ⟨2, .guard⟩ (by simp) rfl _ _ rfl rfl
                  have hwd := hgd 2 true rfl _ _ rfl rfl true h8
                  clear hdep hgd
                  refine ⟨fun _ => .inl ?_, fun hw => (by rw [hwd] at hw; cases hw)⟩
                  clear h8 hwd
                  clear hI
                  generalize aq.eval = ρ at *
                  simp [go_sem, d8, d9, hk]
                · injection ho with ho
                  subst ho
                  have d10 : aq.eval (.tmp 78) = .pointer (some ⟨b, off + k * 4, none⟩) := hdep ⟨10, .data⟩ (by simp) rfl _ _ rfl rfl
                  have h8 : aq.tmps.getD 70 undef = .bool true := hdep ⟨2, .guard⟩ (by simp) rfl _ _ rfl rfl
                  have hwd := hgd 2 true rfl _ _ rfl rfl true h8
                  clear hdep hgd
                  have f0' : W.cell? ⟨b, off + k * 4, none⟩ = _ := (hI.cell (p := ⟨b, off + k * 4, none⟩) hbw).trans f0
                  have f1' : W.cell? ⟨b, off + k * 4 + 1, none⟩ = _ := (hI.cell (p := ⟨b, off + k * 4 + 1, none⟩) hbw).trans f1
                  have f2' : W.cell? ⟨b, off + k * 4 + 2, none⟩ = _ := (hI.cell (p := ⟨b, off + k * 4 + 2, none⟩) hbw).trans f2
                  have f3' : W.cell? ⟨b, off + k * 4 + 3, none⟩ = _ := (hI.cell (p := ⟨b, off + k * 4 + 3, none⟩) hbw).trans f3
                  refine ⟨fun _ => .inl ?_, fun hw => (by rw [hwd] at hw; cases hw)⟩
                  clear h8 hwd
                  clear hI
                  generalize aq.eval = ρ at *
                  simp [go_sem, d10, f0', f1', f2', f3']
                · injection ho with ho
                  subst ho
                  have d7 : aq.eval (.tmp 75) = .agg #[.int .u8 lk, .int .i64 lx, .int .i64 lf, .int .i64 lt] := hdep ⟨7, .data⟩ (by simp) rfl _ _ rfl rfl
                  have d11 : aq.eval (.tmp 79) = .agg #[.int .u8 ok, .int .i64 ox, .int .i64 of', .int .i64 ot] := hdep ⟨11, .data⟩ (by simp) rfl _ _ rfl rfl
                  have h8 : aq.tmps.getD 70 undef = .bool true := hdep ⟨2, .guard⟩ (by simp) rfl _ _ rfl rfl
                  have hwd := hgd 2 true rfl _ _ rfl rfl true h8
                  clear hdep hgd
                  refine ⟨fun _ => .inr ⟨29, #[.agg #[.int .u8 lk, .int .i64 lx, .int .i64 lf, .int .i64 lt], .agg #[.int .u8 ok, .int .i64 ox, .int .i64 of', .int .i64 ot]], ?_, hj W⟩, fun hw => (by rw [hwd] at hw; cases hw)⟩
                  clear h8 hwd
                  clear hI
                  generalize aq.eval = ρ at *
                  simp [go_sem, d7, d11, hfn]
                · injection ho with ho
                  subst ho
                  have d2 : aq.eval (.tmp 70) = .bool true := hdep ⟨2, .data⟩ (by simp) rfl _ _ rfl rfl
                  have d12 : aq.eval (.tmp 80) = .bool false := hdep ⟨12, .data⟩ (by simp) rfl _ _ rfl rfl
                  clear hdep hgd
                  refine ⟨fun _ => .inl ?_, fun hw => (by simp [Region.wanted] at hw)⟩
                  clear hI
                  generalize aq.eval = ρ at *
                  simp [go_sem, d2, d12]
                · simp at ho
              intro wx hb
              simp only [putAll, Act.put, List.setIfInBounds_toArray, List.set_cons_zero, List.set_cons_succ, Nat.reduceAdd]
              clear hj
              have HR2 := Lib.hid (ownsRow_below HR.out hb)
              have HB2 := Lib.hid (HBW.out.trans (hb.mono (B' := w3.heap.size) hsw))
              replace f0 := (hb.cell (p := ⟨b, off + k * 4, none⟩) hbw).trans f0
              replace f1 := (hb.cell (p := ⟨b, off + k * 4 + 1, none⟩) hbw).trans f1
              replace f2 := (hb.cell (p := ⟨b, off + k * 4 + 2, none⟩) hbw).trans f2
              replace f3 := (hb.cell (p := ⟨b, off + k * 4 + 3, none⟩) hbw).trans f3
              have hsx := HB2.out.size
              clear c0 c1 c2 cc3 hb
              go_wp2_with (at_builtin; refine wpList_append_any _ rfl (.tmp 99) (.tmp 104) _ rfl w3.heap.size 27 i0 _ 4 32 Try.underlying22 hi hz0 hz1 hz2 rfl (by omega) (.slice (some ⟨gr, 0, none⟩) mm cap) mm (ogCells acc) rfl (HR2.out.alloc _) (some ⟨wx.heap.size, 0, none⟩) 1 1 (ogCells [(ok, ox, of', ot)]) rfl (OgsR.lit wx 27 [(ok, ox, of', ot)] _ rfl).toSrc (one_ogs _) (by simp only [maxLen]; omega) (by omega) (by simp; omega) ?_; intro v1 w1 hown1 hg1 _)
              have hb3 := below_of_row (HB2.out.alloc hsx (.cells #[.int .u8 ok, .int .i64 ox, .int .i64 of', .int .i64 ot] 27)) (HR2.out.alloc _) (Nat.le_refl _) hg1 (by simp; omega)
              have HB4 := Lib.hid hb3
              have HO1 := Lib.hid hown1
              clear hb3 hown1 hg1
              go_roundg g
              case measure => omega
              case rel => exact ⟨k + 1, by have := HG.out; omega, by go_num, by rw [HST.out, List.length_append, HMM.out, ogCells_append]; exact HO1.out, HB4.out⟩
    | succ g =>
      have hk : k < l.length := by omega
      have HG := Lib.hid hkg
      clear hkg
      obtain ⟨b, off, hAt, hbl0, hcc⟩ := HL.out (by omega)
      obtain ⟨e0, e1, e2, e3⟩ := hcc k hk
      have f0 := (HB.out.cell (p := ⟨b, off + k * 4, none⟩) hbl0).trans e0
      have f1 := (HB.out.cell (p := ⟨b, off + k * 4 + 1, none⟩) hbl0).trans e1
      have f2 := (HB.out.cell (p := ⟨b, off + k * 4 + 2, none⟩) hbl0).trans e2
      have f3 := (HB.out.cell (p := ⟨b, off + k * 4 + 3, none⟩) hbl0).trans e3
      have hbl : b < wr.heap.size := by omega
      clear e0 e1 e2 e3 hcc
      have hlive := fun h => ogSrt_live (l := l) (k := k) h
      have hdead := fun h => ogSrt_dead (l := l) (k := k) h
      obtain ⟨o, hgl⟩ : ∃ o, l.getD k (0, 0, 0, 0) = o := ⟨_, rfl⟩
      rw [hgl] at f0 f1 f2 f3 hlive hdead
      clear hgl
      obtain ⟨ok, ox, of', ot⟩ := o
      simp only at f0 f1 f2 f3 hlive hdead
      subst hAt
      by_cases hlv : of' ≤ ot
      · have HLV := Lib.hid (hlive hlv)
        clear hlive hdead
        obtain ⟨srt, hsrt⟩ : ∃ s, ogSrt l k = s := ⟨_, rfl⟩
        rw [hsrt] at HS HLV hc3 hlen ⊢
        clear hsrt
        obtain ⟨n3, hn3⟩ : ∃ n, srt.length = n := ⟨_, rfl⟩
        have HN3 := Lib.hid hn3
        have hn3m : n3 ≤ 1000000 := by omega
        rw [hn3]
        clear hn3
        go_wp2_with fail
        refine region_calls (w0 := wr) (fun jq => match jq with | 0 => .slice (some ⟨b, off, none⟩) l.length c | 1 => .int .i64 (k : Int) | 2 => .pointer (some ⟨b, off + k * 4, none⟩) | 3 => .pointer (some ⟨b, off + k * 4 + 3, none⟩) | 4 => .int .i64 ot | 5 => .slice (some ⟨b, off, none⟩) l.length c | 6 => .int .i64 (k : Int) | 7 => .pointer (some ⟨b, off + k * 4, none⟩) | 8 => .pointer (some ⟨b, off + k * 4 + 2, none⟩) | 9 => .int .i64 of' | 10 => .bool false | _ => undef) (by kernel_rfl) (by kernel_rfl) ?_ ?_
        · intro iq oq ho aq W hI hdep hrest hgd
          have r0 : aq.eval (.tmp 0) = .slice (some ⟨b, off, none⟩) l.length c := hrest 0 (apart_of (by kernel_rfl))
          have r4 : aq.eval (.tmp 4) = .int .i64 (k : Int) := hrest 4 (apart_of (by kernel_rfl))
          have hc : ∀ v, aq.eval (.const v) = v := fun _ => rfl
          have hfn : ∀ f, aq.eval (.func f) = .func (.func f) #[] #[] := fun _ => rfl
          clear hrest
          rcases iq with _ | _ | _ | _ | _ | _ | _ | _ | _ | _ | _ | iq
          · injection ho with ho
            subst ho
            clear hdep hgd
            refine ⟨fun _ => .inl ?_, fun hw => (by simp [Region.wanted] at hw)⟩
            clear hI
            generalize aq.eval = ρ at *
            simp [go_sem, r0]
          · injection ho with ho
            subst ho
            clear hdep hgd
            refine ⟨fun _ => .inl ?_, fun hw => (by simp [Region.wanted] at hw)⟩
            clear hI
            generalize aq.eval = ρ at *
            simp [go_sem, r4]
          · injection ho with ho
            subst ho
            have d0 : aq.eval (.tmp 16) = .slice (some ⟨b, off, none⟩) l.length c := hdep ⟨0, .data⟩ (by simp) rfl _ _ rfl rfl
            have d1 : aq.eval (.tmp 17) = .int .i64 (k : Int) := hdep ⟨1, .data⟩ (by simp) rfl _ _ rfl rfl
            clear hdep hgd
            refine ⟨fun _ => .inl ?_, fun hw => (by simp [Region.wanted] at hw)⟩
            clear hI
            generalize aq.eval = ρ at *
            simp [go_sem, d0, d1, hk]
          · injection ho with ho
            subst ho
            have d2 : aq.eval (.tmp 18) = .pointer (some ⟨b, off + k * 4, none⟩) := hdep ⟨2, .data⟩ (by simp) rfl _ _ rfl rfl
            clear hdep hgd
            refine ⟨fun _ => .inl ?_, fun hw => (by simp [Region.wanted] at hw)⟩
            clear hI
            generalize aq.eval = ρ at *
            simp [go_sem, d2]
          · injection ho with ho
            subst ho
            have d3 : aq.eval (.tmp 19) = .pointer (some ⟨b, off + k * 4 + 3, none⟩) := hdep ⟨3, .data⟩ (by simp) rfl _ _ rfl rfl
            clear hdep hgd
            have f3' : W.cell? ⟨b, off + k * 4 + 3, none⟩ = _ := (hI.cell (p := ⟨b, off + k * 4 + 3, none⟩) hbl).trans f3
            refine ⟨fun _ => .inl ?_, fun hw => (by simp [Region.wanted] at hw)⟩
            clear hI
            generalize aq.eval = ρ at *
            simp [go_sem, d3, f3']
          · injection ho with ho
            subst ho
            clear hdep hgd
            refine ⟨fun _ => .inl ?_, fun hw => (by simp [Region.wanted] at hw)⟩
            clear hI
            generalize aq.eval = ρ at *
            simp [go_sem, r0]
          · injection ho with ho
            subst ho
            clear hdep hgd
            refine ⟨fun _ => .inl ?_, fun hw => (by simp [Region.wanted] at hw)⟩
            clear hI
            generalize aq.eval = ρ at *
            simp [go_sem, r4]
          · injection ho with ho
            subst ho
            have d5 : aq.eval (.tmp 21) = .slice (some ⟨b, off, none⟩) l.length c := hdep ⟨5, .data⟩ (by simp) rfl _ _ rfl rfl
            have d6 : aq.eval (.tmp 22) = .int .i64 (k : Int) := hdep ⟨6, .data⟩ (by simp) rfl _ _ rfl rfl
            clear hdep hgd
            refine ⟨fun _ => .inl ?_, fun hw => (by simp [Region.wanted] at hw)⟩
            clear hI
            generalize aq.eval = ρ at *
            simp [go_sem, d5, d6, hk]
          · injection ho with ho
            subst ho
            have d7 : aq.eval (.tmp 23) = .pointer (some ⟨b, off + k * 4, none⟩) := hdep ⟨7, .data⟩ (by simp) rfl _ _ rfl rfl
            clear hdep hgd
            refine ⟨fun _ => .inl ?_, fun hw => (by simp [Region.wanted] at hw)⟩
            clear hI
            generalize aq.eval = ρ at *
            simp [go_sem, d7]
          · injection ho with ho
            subst ho
            have d8 : aq.eval (.tmp 24) = .pointer (some ⟨b, off + k * 4 + 2, none⟩) := hdep ⟨8, .data⟩ (by simp) rfl _ _ rfl rfl
            clear hdep hgd
            have f2' : W.cell? ⟨b, off + k * 4 + 2, none⟩ = _ := (hI.cell (p := ⟨b, off + k * 4 + 2, none⟩) hbl).trans f2
            refine ⟨fun _ => .inl ?_, fun hw => (by simp [Region.wanted] at hw)⟩
            clear hI
            generalize aq.eval = ρ at *
            simp [go_sem, d8, f2']
          · injection ho with ho
            subst ho
            have d4 : aq.eval (.tmp 20) = .int .i64 ot := hdep ⟨4, .data⟩ (by simp) rfl _ _ rfl rfl
            have d9 : aq.eval (.tmp 25) = .int .i64 of' := hdep ⟨9, .data⟩ (by simp) rfl _ _ rfl rfl
            clear hdep hgd
            refine ⟨fun _ => .inl ?_, fun hw => (by simp [Region.wanted] at hw)⟩
            clear hI
            generalize aq.eval = ρ at *
            simp [go_sem, d4, d9, hlv]
          · simp at ho
        intro wx hb
        simp only [putAll, Act.put, List.setIfInBounds_toArray, List.set_cons_zero, List.set_cons_succ, Nat.reduceAdd]
        clear hlv
        have HWX := Lib.hid hb
        clear hb
        go_wp2_with fail
        generalize wr = wo at *
        go_loopg [5] n3 (fun g s5 wi => ∃ m : Nat, m + g = n3 ∧ s5 = .int .i64 m ∧ (∀ j, j < m → ¬ ogLt (ok, ox, of', ot) (srt.getD j (0, 0, 0, 0))) ∧ Below wo.heap.size wo wi)
        case atStart => exact ⟨0, by omega, rfl, fun j hj => absurd hj (by omega), HWX.out⟩
        case round =>
          obtain ⟨wi, hwi⟩ : ∃ x, x = wr := ⟨_, rfl⟩
          rw [← hwi] at hrel ⊢
          clear hwi
          obtain ⟨m, hmg, rfl, hall, hbi⟩ := hrel
          have HALL := Lib.hid hall
          have HBI := Lib.hid hbi
          have hsi := hbi.size
          clear hall hbi
          have hbli : b < wi.heap.size := by omega
          have w0 := (HBI.out.cell (p := ⟨b, off + k * 4, none⟩) hbl).trans f0
          have w1 := (HBI.out.cell (p := ⟨b, off + k * 4 + 1, none⟩) hbl).trans f1
          have w2 := (HBI.out.cell (p := ⟨b, off + k * 4 + 2, none⟩) hbl).trans f2
          have w3 := (HBI.out.cell (p := ⟨b, off + k * 4 + 3, none⟩) hbl).trans f3
          by_cases hme : m < n3
          · have hmn : m < n3 := hme
            obtain ⟨gs, os, hA3, hgs0, hcs⟩ := HS.out (by have := HN3.out; omega)
            obtain ⟨t0, t1, t2, t3⟩ := hcs m (by have := HN3.out; omega)
            have s0 := (HBI.out.cell (p := ⟨gs, os + m * 4, none⟩) hgs0).trans t0
            have s1 := (HBI.out.cell (p := ⟨gs, os + m * 4 + 1, none⟩) hgs0).trans t1
            have s2 := (HBI.out.cell (p := ⟨gs, os + m * 4 + 2, none⟩) hgs0).trans t2
            have s3 := (HBI.out.cell (p := ⟨gs, os + m * 4 + 3, none⟩) hgs0).trans t3
            have hgs : gs < wi.heap.size := by omega
            clear t0 t1 t2 t3 hcs
            have hless0 := fun W => less_any (ok, ox, of', ot) (srt.getD m (0, 0, 0, 0)) W
            by_cases hlt : ogLt (ok, ox, of', ot) (srt.getD m (0, 0, 0, 0))
            · have hins := ogIns_at (ok, ox, of', ot) srt m HALL.out (.inr ⟨by have := HN3.out; omega, hlt⟩)
              rw [decide_eq_true hlt] at hless0
              rw [← HLV.out] at hins
              have HINS := Lib.hid hins
              clear hins hlt
              obtain ⟨so, hso⟩ : ∃ o, srt.getD m (0, 0, 0, 0) = o := ⟨_, rfl⟩
              rw [hso] at s0 s1 s2 s3 hless0
              clear hso
              obtain ⟨sk, sx, sf, st⟩ := so
              simp only at s0 s1 s2 s3
              have hless : ∀ W, Calls Try.prog 28 #[.agg #[.int .u8 ok, .int .i64 ox, .int .i64 of', .int .i64 ot], .agg #[.int .u8 sk, .int .i64 sx, .int .i64 sf, .int .i64 st]] W fun e w' => e = .returned (.bool true) ∧ Below W.heap.size W w' := fun W => (hless0 W).mono fun e w' ⟨he, hw⟩ => ⟨he, by rw [hw]; exact twoOg_below _ _ _⟩
              clear hless0
              subst hA3
              go_wp2_with fail
              refine region_calls (w0 := wi) (fun jq => match jq with | 0 => .int .i64 (m : Int) | 1 => .slice (some ⟨gs, os, none⟩) n3 c3 | 2 => .int .i64 (n3 : Int) | 3 => .bool true | 4 => .bool true | 5 => .slice (some ⟨b, off, none⟩) l.length c | 6 => .int .i64 (k : Int) | 7 => .pointer (some ⟨b, off + k * 4, none⟩) | 8 => .agg #[.int .u8 ok, .int .i64 ox, .int .i64 of', .int .i64 ot] | 9 => .slice (some ⟨gs, os, none⟩) n3 c3 | 10 => .int .i64 (m : Int) | 11 => .pointer (some ⟨gs, os + m * 4, none⟩) | 12 => .agg #[.int .u8 sk, .int .i64 sx, .int .i64 sf, .int .i64 st] | 13 => .bool true | 14 => .bool false | 15 => .bool false | _ => undef) (by kernel_rfl) (by kernel_rfl) ?_ ?_
              · intro iq oq ho aq W hI hdep hrest hgd
                have r5 : aq.eval (.tmp 5) = .int .i64 (m : Int) := hrest 5 (apart_of (by kernel_rfl))
                have r3 : aq.eval (.tmp 3) = .slice (some ⟨gs, os, none⟩) n3 c3 := hrest 3 (apart_of (by kernel_rfl))
                have r0 : aq.eval (.tmp 0) = .slice (some ⟨b, off, none⟩) l.length c := hrest 0 (apart_of (by kernel_rfl))
                have r4 : aq.eval (.tmp 4) = .int .i64 (k : Int) := hrest 4 (apart_of (by kernel_rfl))
                have hc : ∀ v, aq.eval (.const v) = v := fun _ => rfl
                have hfn : ∀ f, aq.eval (.func f) = .func (.func f) #[] #[] := fun _ => rfl
                clear hrest
                rcases iq with _ | _ | _ | _ | _ | _ | _ | _ | _ | _ | _ | _ | _ | _ | _ | _ | iq
                · injection ho with ho
                  subst ho
                  clear hdep hgd
                  refine ⟨fun _ => .inl ?_, fun hw => (by simp [Region.wanted] at hw)⟩
                  clear hI
                  generalize aq.eval = ρ at *
                  simp [go_sem, r5]
                · injection ho with ho
                  subst ho
                  clear hdep hgd
                  refine ⟨fun _ => .inl ?_, fun hw => (by simp [Region.wanted] at hw)⟩
                  clear hI
                  generalize aq.eval = ρ at *
                  simp [go_sem, r3]
                · injection ho with ho
                  subst ho
                  have d1 : aq.eval (.tmp 28) = .slice (some ⟨gs, os, none⟩) n3 c3 := hdep ⟨1, .data⟩ (by simp) rfl _ _ rfl rfl
                  clear hdep hgd
                  refine ⟨fun _ => .inl ?_, fun hw => (by simp [Region.wanted] at hw)⟩
                  clear hI
                  generalize aq.eval = ρ at *
                  simp [go_sem, d1]
                · injection ho with ho
                  subst ho
                  have d0 : aq.eval (.tmp 27) = .int .i64 (m : Int) := hdep ⟨0, .data⟩ (by simp) rfl _ _ rfl rfl
                  have d2 : aq.eval (.tmp 29) = .int .i64 (n3 : Int) := hdep ⟨2, .data⟩ (by simp) rfl _ _ rfl rfl
                  clear hdep hgd
                  refine ⟨fun _ => .inl ?_, fun hw => (by simp [Region.wanted] at hw)⟩
                  clear hI
                  generalize aq.eval = ρ at *
                  simp [go_sem, d0, d2, hmn]
                · injection ho with ho
                  subst ho
                  have d3 : aq.eval (.tmp 30) = .bool true := hdep ⟨3, .data⟩ (by simp) rfl _ _ rfl rfl
                  clear hdep hgd
                  refine ⟨fun _ => .inl ?_, fun hw => (by simp [Region.wanted] at hw)⟩
                  clear hI
                  generalize aq.eval = ρ at *
                  simp [go_sem, d3]
                · injection ho with ho
                  subst ho
                  have h8 : aq.tmps.getD 31 undef = .bool true := hdep ⟨4, .guard⟩ (by simp) rfl _ _ rfl rfl
                  have hwd := hgd 4 true rfl _ _ rfl rfl true h8
                  clear hdep hgd
                  refine ⟨fun _ => .inl ?_, fun hw => (by rw [hwd] at hw; cases hw)⟩
                  clear h8 hwd
                  clear hI
                  generalize aq.eval = ρ at *
                  simp [go_sem, r0]
                · injection ho with ho
                  subst ho
                  have h8 : aq.tmps.getD 31 undef = .bool true := hdep ⟨4, .guard⟩ (by simp) rfl _ _ rfl rfl
                  have hwd := hgd 4 true rfl _ _ rfl rfl true h8
                  clear hdep hgd
                  refine ⟨fun _ => .inl ?_, fun hw => (by rw [hwd] at hw; cases hw)⟩
                  clear h8 hwd
                  clear hI
                  generalize aq.eval = ρ at *
                  simp [go_sem, r4]
                · injection ho with ho
                  subst ho
                  have d5 : aq.eval (.tmp 32) = .slice (some ⟨b, off, none⟩) l.length c := hdep ⟨5, .data⟩ (by simp) rfl _ _ rfl rfl
                  have d6 : aq.eval (.tmp 33) = .int .i64 (k : Int) := hdep ⟨6, .data⟩ (by simp) rfl _ _ rfl rfl
                  have h8 : aq.tmps.getD 31 undef = .bool true := hdep ⟨4, .guard⟩ (by simp) rfl _ _ rfl rfl
                  have hwd := hgd 4 true rfl _ _ rfl rfl true h8
                  clear hdep hgd
                  refine ⟨fun _ => .inl ?_, fun hw => (by rw [hwd] at hw; cases hw)⟩
                  clear h8 hwd
                  clear hI
                  generalize aq.eval = ρ at *
                  simp [go_sem, d5, d6, hk]
                · injection ho with ho
                  subst ho
                  have d7 : aq.eval (.tmp 34) = .pointer (some ⟨b, off + k * 4, none⟩) := hdep ⟨7, .data⟩ (by simp) rfl _ _ rfl rfl
                  have h8 : aq.tmps.getD 31 undef = .bool true := hdep ⟨4, .guard⟩ (by simp) rfl _ _ rfl rfl
                  have hwd := hgd 4 true rfl _ _ rfl rfl true h8
                  clear hdep hgd
                  have f0' : W.cell? ⟨b, off + k * 4, none⟩ = _ := (hI.cell (p := ⟨b, off + k * 4, none⟩) hbli).trans w0
                  have f1' : W.cell? ⟨b, off + k * 4 + 1, none⟩ = _ := (hI.cell (p := ⟨b, off + k * 4 + 1, none⟩) hbli).trans w1
                  have f2' : W.cell? ⟨b, off + k * 4 + 2, none⟩ = _ := (hI.cell (p := ⟨b, off + k * 4 + 2, none⟩) hbli).trans w2
                  have f3' : W.cell? ⟨b, off + k * 4 + 3, none⟩ = _ := (hI.cell (p := ⟨b, off + k * 4 + 3, none⟩) hbli).trans w3
                  refine ⟨fun _ => .inl ?_, fun hw => (by rw [hwd] at hw; cases hw)⟩
                  clear h8 hwd
                  clear hI
                  generalize aq.eval = ρ at *
                  simp [go_sem, d7, f0', f1', f2', f3']
                · injection ho with ho
                  subst ho
                  have h8 : aq.tmps.getD 31 undef = .bool true := hdep ⟨4, .guard⟩ (by simp) rfl _ _ rfl rfl
                  have hwd := hgd 4 true rfl _ _ rfl rfl true h8
                  clear hdep hgd
                  refine ⟨fun _ => .inl ?_, fun hw => (by rw [hwd] at hw; cases hw)⟩
                  clear h8 hwd
                  clear hI
                  generalize aq.eval = ρ at *
                  simp [go_sem, r3]
                · injection ho with ho
                  subst ho
                  have h8 : aq.tmps.getD 31 undef = .bool true := hdep ⟨4, .guard⟩ (by simp) rfl _ _ rfl rfl
                  have hwd := hgd 4 true rfl _ _ rfl rfl true h8
                  clear hdep hgd
                  refine ⟨fun _ => .inl ?_, fun hw => (by rw [hwd] at hw; cases hw)⟩
                  clear h8 hwd
                  clear hI
                  generalize aq.eval = ρ at *
                  simp [go_sem, r5]
                · injection ho with ho
                  subst ho
                  have d9 : aq.eval (.tmp 36) = .slice (some ⟨gs, os, none⟩) n3 c3 := hdep ⟨9, .data⟩ (by simp) rfl _ _ rfl rfl
                  have d10 : aq.eval (.tmp 37) = .int .i64 (m : Int) := hdep ⟨10, .data⟩ (by simp) rfl _ _ rfl rfl
                  have h8 : aq.tmps.getD 31 undef = .bool true := hdep ⟨4, .guard⟩ (by simp) rfl _ _ rfl rfl
                  have hwd := hgd 4 true rfl _ _ rfl rfl true h8
                  clear hdep hgd
                  refine ⟨fun _ => .inl ?_, fun hw => (by rw [hwd] at hw; cases hw)⟩
                  clear h8 hwd
                  clear hI
                  generalize aq.eval = ρ at *
                  simp [go_sem, d9, d10, hmn]
                · injection ho with ho
                  subst ho
                  have d11 : aq.eval (.tmp 38) = .pointer (some ⟨gs, os + m * 4, none⟩) := hdep ⟨11, .data⟩ (by simp) rfl _ _ rfl rfl
                  have h8 : aq.tmps.getD 31 undef = .bool true := hdep ⟨4, .guard⟩ (by simp) rfl _ _ rfl rfl
                  have hwd := hgd 4 true rfl _ _ rfl rfl true h8
                  clear hdep hgd
                  have s0' : W.cell? ⟨gs, os + m * 4, none⟩ = _ := (hI.cell (p := ⟨gs, os + m * 4, none⟩) hgs).trans s0
                  have s1' : W.cell? ⟨gs, os + m * 4 + 1, none⟩ = _ := (hI.cell (p := ⟨gs, os + m * 4 + 1, none⟩) hgs).trans s1
                  have s2' : W.cell? ⟨gs, os + m * 4 + 2, none⟩ = _ := (hI.cell (p := ⟨gs, os + m * 4 + 2, none⟩) hgs).trans s2
                  have s3' : W.cell? ⟨gs, os + m * 4 + 3, none⟩ = _ := (hI.cell (p := ⟨gs, os + m * 4 + 3, none⟩) hgs).trans s3
                  refine ⟨fun _ => .inl ?_, fun hw => (by rw [hwd] at hw; cases hw)⟩
                  clear h8 hwd
                  clear hI
                  generalize aq.eval = ρ at *
                  simp [go_sem, d11, s0', s1', s2', s3']
                · injection ho with ho
                  subst ho
                  have d8 : aq.eval (.tmp 35) = .agg #[.int .u8 ok, .int .i64 ox, .int .i64 of', .int .i64 ot] := hdep ⟨8, .data⟩ (by simp) rfl _ _ rfl rfl
                  have d12 : aq.eval (.tmp 39) = .agg #[.int .u8 sk, .int .i64 sx, .int .i64 sf, .int .i64 st] := hdep ⟨12, .data⟩ (by simp) rfl _ _ rfl rfl
                  have h8 : aq.tmps.getD 31 undef = .bool true := hdep ⟨4, .guard⟩ (by simp) rfl _ _ rfl rfl
                  have hwd := hgd 4 true rfl _ _ rfl rfl true h8
                  clear hdep hgd
                  refine ⟨fun _ => .inr ⟨28, #[.agg #[.int .u8 ok, .int .i64 ox, .int .i64 of', .int .i64 ot], .agg #[.int .u8 sk, .int .i64 sx, .int .i64 sf, .int .i64 st]], ?_, hless W⟩, fun hw => (by rw [hwd] at hw; cases hw)⟩
                  clear h8 hwd
                  clear hI
                  generalize aq.eval = ρ at *
                  simp [go_sem, d8, d12, hfn]
                · injection ho with ho
                  subst ho
                  have d13 : aq.eval (.tmp 40) = .bool true := hdep ⟨13, .data⟩ (by simp) rfl _ _ rfl rfl
                  have h8 : aq.tmps.getD 31 undef = .bool true := hdep ⟨4, .guard⟩ (by simp) rfl _ _ rfl rfl
                  have hwd := hgd 4 true rfl _ _ rfl rfl true h8
                  clear hdep hgd
                  refine ⟨fun _ => .inl ?_, fun hw => (by rw [hwd] at hw; cases hw)⟩
                  clear h8 hwd
                  clear hI
                  generalize aq.eval = ρ at *
                  simp [go_sem, d13]
                · injection ho with ho
                  subst ho
                  have d4 : aq.eval (.tmp 31) = .bool true := hdep ⟨4, .data⟩ (by simp) rfl _ _ rfl rfl
                  have d14 : aq.eval (.tmp 41) = .bool false := hdep ⟨14, .data⟩ (by simp) rfl _ _ rfl rfl
                  clear hdep hgd
                  refine ⟨fun _ => .inl ?_, fun hw => (by simp [Region.wanted] at hw)⟩
                  clear hI
                  generalize aq.eval = ρ at *
                  simp [go_sem, d4, d14]
                · simp at ho
              intro wy hb
              simp only [putAll, Act.put, List.setIfInBounds_toArray, List.set_cons_zero, List.set_cons_succ, Nat.reduceAdd]
              have HWY := Lib.hid (HBI.out.trans (hb.mono HBI.out.size))
              have hmle : m ≤ n3 := by omega
              clear hb s0 s1 s2 s3 hless
              clear w0 w1 w2 w3
              have g0 := (HWY.out.cell (p := ⟨b, off + k * 4, none⟩) hbl).trans f0
              have g1 := (HWY.out.cell (p := ⟨b, off + k * 4 + 1, none⟩) hbl).trans f1
              have g2 := (HWY.out.cell (p := ⟨b, off + k * 4 + 2, none⟩) hbl).trans f2
              have g3 := (HWY.out.cell (p := ⟨b, off + k * 4 + 3, none⟩) hbl).trans f3
              have hbly : b < wy.heap.size := by have := HWY.out.size; omega
              have hS := HS.out.upto HWY.out
              have HSD := Lib.hid (hS.drop m hc3)
              have HST := Lib.hid (hS.take m)
              have hs1 := slice_l (some ⟨gs, os, none⟩) n3 c3 m hmle (by rw [← HN3.out]; exact hc3)
              have hs2 := slice_h (some ⟨gs, os, none⟩) n3 c3 m (by have := HN3.out; omega)
              have HST0 := Lib.hid (hS.part 0 m hc3)
              rw [List.drop_zero] at HST0
              have HNM : Hid ((srt.drop m).length = n3 - m) := by show _ = _; rw [List.length_drop, HN3.out]
              have HTM : Hid ((srt.take m).length = m) := by show _ = _; rw [List.length_take, HN3.out]; omega
              generalize subA (some ⟨gs, os, none⟩) c3 m = Am at *
              generalize subA (some ⟨gs, os, none⟩) c3 0 = Az at *
              generalize c3 - m = cm at *
              obtain ⟨nm, hnm⟩ : ∃ x, n3 - m = x := ⟨_, rfl⟩
              rw [hnm] at hs1 HNM
              have hnm2 : nm ≤ 1000000 := by omega
              clear hnm hS
              obtain ⟨rl, erl⟩ : ∃ x, x = (ok, ox, of', ot) :: srt.drop m := ⟨_, rfl⟩
              have hrll : rl.length ≤ 1000001 := by rw [erl, List.length_cons, HNM.out]; omega
              have HRL := Lib.hid erl
              clear erl
              go_wp2_with fail
              refine region_eachX (RestF (fun j => match j with | 0 => .slice (some ⟨b, off, none⟩) l.length c | 1 => .int .i64 (k : Int) | 2 => .pointer (some ⟨b, off + k * 4, none⟩) | 3 => .agg #[.int .u8 ok, .int .i64 ox, .int .i64 of', .int .i64 ot] | 5 => .slice (some ⟨gs, os, none⟩) n3 c3 | 6 => .int .i64 (m : Int) | 7 => .slice Am nm cm | _ => undef) wy.heap.size (ok, ox, of', ot) rl) (fun _ W => Below wy.heap.size wy W) (by kernel_rfl) (by kernel_rfl) (Below.refl _ _).drew ?_ ?_
              · intro iq oq ho done aq W hni hcl hI hdep hrest
                have r0 : aq.eval (.tmp 0) = .slice (some ⟨b, off, none⟩) l.length c := hrest 0 (apart_of (by kernel_rfl))
                have r4 : aq.eval (.tmp 4) = .int .i64 (k : Int) := hrest 4 (apart_of (by kernel_rfl))
                have r3 : aq.eval (.tmp 3) = .slice (some ⟨gs, os, none⟩) n3 c3 := hrest 3 (apart_of (by kernel_rfl))
                have r5 : aq.eval (.tmp 5) = .int .i64 (m : Int) := hrest 5 (apart_of (by kernel_rfl))
                clear hrest
                rcases iq with _ | _ | _ | _ | _ | _ | _ | _ | _ | _ | iq
                · injection ho with ho
                  subst ho
                  refine ⟨fun _ K Q hK => wp_of_value (v := .slice (some ⟨b, off, none⟩) l.length c) ?_ (hK _ _ hI rfl fun j u _ _ h => h.keep (Below.refl _ _) _), fun hw => by simp [Region.wanted] at hw⟩
                  clear hK hdep hI hcl hni
                  generalize aq.eval = ρ at *
                  simp [go_sem, r0]
                · injection ho with ho
                  subst ho
                  refine ⟨fun _ K Q hK => wp_of_value (v := .int .i64 (k : Int)) ?_ (hK _ _ hI rfl fun j u _ _ h => h.keep (Below.refl _ _) _), fun hw => by simp [Region.wanted] at hw⟩
                  clear hK hdep hI hcl hni
                  generalize aq.eval = ρ at *
                  simp [go_sem, r4]
                · injection ho with ho
                  subst ho
                  have d0 : aq.eval (.tmp 45) = .slice (some ⟨b, off, none⟩) l.length c := ((hdep ⟨0, .data⟩ (by simp) rfl).2 _ rfl).1 _ rfl
                  have d1 : aq.eval (.tmp 46) = .int .i64 (k : Int) := ((hdep ⟨1, .data⟩ (by simp) rfl).2 _ rfl).1 _ rfl
                  refine ⟨fun _ K Q hK => wp_of_value (v := .pointer (some ⟨b, off + k * 4, none⟩)) ?_ (hK _ _ hI rfl fun j u _ _ h => h.keep (Below.refl _ _) _), fun hw => by simp [Region.wanted] at hw⟩
                  clear hK hdep hI hcl hni
                  generalize aq.eval = ρ at *
                  simp [go_sem, d0, d1, hk]
                · injection ho with ho
                  subst ho
                  have d2 : aq.eval (.tmp 47) = .pointer (some ⟨b, off + k * 4, none⟩) := ((hdep ⟨2, .data⟩ (by simp) rfl).2 _ rfl).1 _ rfl
                  have f0' : W.cell? ⟨b, off + k * 4, none⟩ = _ := (hI.cell (p := ⟨b, off + k * 4, none⟩) hbly).trans g0
                  have f1' : W.cell? ⟨b, off + k * 4 + 1, none⟩ = _ := (hI.cell (p := ⟨b, off + k * 4 + 1, none⟩) hbly).trans g1
                  have f2' : W.cell? ⟨b, off + k * 4 + 2, none⟩ = _ := (hI.cell (p := ⟨b, off + k * 4 + 2, none⟩) hbly).trans g2
                  have f3' : W.cell? ⟨b, off + k * 4 + 3, none⟩ = _ := (hI.cell (p := ⟨b, off + k * 4 + 3, none⟩) hbly).trans g3
                  refine ⟨fun _ K Q hK => wp_of_value (v := .agg #[.int .u8 ok, .int .i64 ox, .int .i64 of', .int .i64 ot]) ?_ (hK _ _ hI rfl fun j u _ _ h => h.keep (Below.refl _ _) _), fun hw => by simp [Region.wanted] at hw⟩
                  clear hK hdep hI hcl hni
                  generalize aq.eval = ρ at *
                  simp [go_sem, d2, f0', f1', f2', f3']
                · injection ho with ho
                  subst ho
                  have d3 : aq.eval (.tmp 48) = .agg #[.int .u8 ok, .int .i64 ox, .int .i64 of', .int .i64 ot] := ((hdep ⟨3, .data⟩ (by simp) rfl).2 _ rfl).1 _ rfl
                  have hb : Below W.heap.size W (W.alloc (.cells #[.int .u8 ok, .int .i64 ox, .int .i64 of', .int .i64 ot] 27)) := (Below.refl _ _).alloc (Nat.le_refl _) _
                  refine ⟨fun _ K Q hK => wp_of_value (v := .slice (some ⟨W.heap.size, 0, none⟩) 1 1) (w' := W.alloc (.cells #[.int .u8 ok, .int .i64 ox, .int .i64 of', .int .i64 ot] 27)) ?_ (hK _ _ (hI.alloc hI.size _) (fun _ => ownsRow_base (row_one W (ok, ox, of', ot)) hI.size) fun _ _ _ _ h => h.keep hb _), fun hw => by simp [Region.wanted] at hw⟩
                  clear hK hdep hI hcl hni hb
                  generalize aq.eval = ρ at *
                  simp [go_sem, d3]
                · injection ho with ho
                  subst ho
                  refine ⟨fun _ K Q hK => wp_of_value (v := .slice (some ⟨gs, os, none⟩) n3 c3) ?_ (hK _ _ hI rfl fun j u _ _ h => h.keep (Below.refl _ _) _), fun hw => by simp [Region.wanted] at hw⟩
                  clear hK hdep hI hcl hni
                  generalize aq.eval = ρ at *
                  simp [go_sem, r3]
                · injection ho with ho
                  subst ho
                  refine ⟨fun _ K Q hK => wp_of_value (v := .int .i64 (m : Int)) ?_ (hK _ _ hI rfl fun j u _ _ h => h.keep (Below.refl _ _) _), fun hw => by simp [Region.wanted] at hw⟩
                  clear hK hdep hI hcl hni
                  generalize aq.eval = ρ at *
                  simp [go_sem, r5]
                · injection ho with ho
                  subst ho
                  have d5 : aq.eval (.tmp 50) = .slice (some ⟨gs, os, none⟩) n3 c3 := ((hdep ⟨5, .data⟩ (by simp) rfl).2 _ rfl).1 _ rfl
                  have d6 : aq.eval (.tmp 51) = .int .i64 (m : Int) := ((hdep ⟨6, .data⟩ (by simp) rfl).2 _ rfl).1 _ rfl
                  refine ⟨fun _ K Q hK => wp_of_value (v := .slice Am nm cm) ?_ (hK _ _ hI rfl fun j u _ _ h => h.keep (Below.refl _ _) _), fun hw => by simp [Region.wanted] at hw⟩
                  clear hK hdep hI hcl hni
                  generalize aq.eval = ρ at *
                  simp [go_sem, d5, d6, hs1]
                · injection ho with ho
                  subst ho
                  have d7 : aq.eval (.tmp 52) = .slice Am nm cm := ((hdep ⟨7, .data⟩ (by simp) rfl).2 _ rfl).1 _ rfl
                  have hown : W.ownsRow wy.heap.size 27 4 (aq.eval (.tmp 49)) 1 (ogCells [(ok, ox, of', ot)]) := ((hdep ⟨4, .data⟩ (by simp) rfl).2 _ rfl).1 _ rfl hni
                  have hZ : OgsR W W.heap.size Am (srt.drop m) := (HSD.out.below hI).more hI.size
                  refine ⟨fun _ K Q hK => ?_, fun hw => by simp [Region.wanted] at hw⟩
                  refine wp_append_any W (.tmp 49) (.tmp 52) _ rfl wy.heap.size 27 i0 _ 4 32 Try.underlying22 hi hz0 hz1 hz2 rfl (by omega) (aq.eval (.tmp 49)) 1 (ogCells [(ok, ox, of', ot)]) rfl hown Am nm cm (ogCells (srt.drop m)) d7 (by have := hZ.toSrc; rwa [HNM.out] at this) (one_ogs _) (by simp only [maxLen]; omega) (by omega) hI.size ?_
                  intro v w' hown' hg _
                  have hbl : Below wy.heap.size wy w' := below_of_row hI hown (Nat.le_refl _) hg hI.size
                  have hrow : w'.ownsRow wy.heap.size 27 4 v rl.length (ogCells rl) := by rw [HRL.out, List.length_cons, HNM.out, ogCells_cons, Nat.add_comm]; simpa [ogCells] using hown'
                  refine hK _ _ hbl hrow fun j u hd _ h => ?_
                  rcases j with _ | _ | _ | _ | _ | _ | _ | _ | _ | _ | j
                  · exact h
                  · exact h
                  · exact h
                  · exact h
                  · exact fun h7 => absurd (.inl rfl) h7
                  · exact h
                  · exact h
                  · exact h
                  · exact absurd hd hni
                  · exact absurd (hcl 9 _ rfl hd ⟨8, .data⟩ (by simp) rfl) hni
                  · exact h
                · injection ho with ho
                  subst ho
                  have h7 : W.ownsRow wy.heap.size 27 4 (aq.eval (.tmp 53)) rl.length (ogCells rl) := ((hdep ⟨8, .data⟩ (by simp) rfl).2 _ rfl).1 _ rfl
                  obtain ⟨u, hu⟩ : ∃ u, aq.eval (.tmp 53) = u := ⟨_, rfl⟩
                  rw [hu] at h7
                  refine ⟨fun _ K Q hK => wp_of_value (v := u) ?_ (hK _ _ hI h7 fun j u _ _ h => h.keep (Below.refl _ _) _), fun hw => by simp [Region.wanted] at hw⟩
                  clear hK hdep hI hcl hni h7
                  generalize aq.eval = ρ at *
                  simp [go_sem, hu]
                · simp at ho
              intro done vs wz hdn hI hF
              have e0 : vs 0 = .slice (some ⟨b, off, none⟩) l.length c := hF 0 (by decide)
              have e1 : vs 1 = .int .i64 (k : Int) := hF 1 (by decide)
              have e2 : vs 2 = .pointer (some ⟨b, off + k * 4, none⟩) := hF 2 (by decide)
              have e3 : vs 3 = .agg #[.int .u8 ok, .int .i64 ox, .int .i64 of', .int .i64 ot] := hF 3 (by decide)
              have e5 : vs 5 = .slice (some ⟨gs, os, none⟩) n3 c3 := hF 5 (by decide)
              have e6 : vs 6 = .int .i64 (m : Int) := hF 6 (by decide)
              have e7 : vs 7 = .slice Am nm cm := hF 7 (by decide)
              obtain ⟨Ar, cr, e9, _, hrl⟩ := ownsRow_ogc (show wz.ownsRow _ _ _ _ _ _ from hF 9 (by decide))
              have HR := Lib.hid hrl
              have HYZ := Lib.hid hI
              clear hF hI hrl hdn
              simp only [putAll, Act.put, List.setIfInBounds_toArray, List.set_cons_zero, List.set_cons_succ, Nat.reduceAdd, e0, e1, e2, e3, e5, e6, e7, e9]
              clear e0 e1 e2 e3 e5 e6 e7 e9
              clear g0 g1 g2 g3 hs1
              have HST1 := Lib.hid (HST0.out.upto HYZ.out)
              go_wp2_with (first | (at_builtin; refine wpList_append_any _ rfl (.const (.slice none 0 0)) (.tmp 56) _ rfl wz.heap.size 27 i0 _ 4 32 Try.underlying22 hi hz0 hz1 hz2 rfl (by omega) (.slice none 0 0) 0 [] rfl ⟨by simp, .inl ⟨rfl, rfl⟩⟩ Az m c3 (ogCells (srt.take m)) rfl (by have := HST1.out.toSrc; rwa [HTM.out] at this) (one_ogs _) (by simp only [maxLen]; omega) (by omega) (Nat.le_refl _) ?_; intro v1 w1 hown1 hg1 _; simp only [Nat.zero_add, List.nil_append] at hown1; have HO1 := Lib.hid hown1; have HZ1 := Lib.hid (show Below wz.heap.size wz w1 from (Below.refl _ _).grown hg1 (Nat.le_refl _) (by simp [Value.ownBlock])); clear hown1 hg1) | (at_builtin; refine wpList_append_any _ rfl (.tmp 57) (.tmp 58) _ rfl wz.heap.size 27 i0 _ 4 32 Try.underlying22 hi hz0 hz1 hz2 rfl (by omega) v1 m (ogCells (srt.take m)) rfl HO1.out Ar rl.length cr (ogCells rl) rfl (HR.out.upto HZ1.out).toSrc (one_ogs _) (by simp only [maxLen]; omega) (by omega) HZ1.out.size ?_; intro v2 w2 hown2 hg2 _; have HZ2 := Lib.hid (below_of_row HZ1.out HO1.out (Nat.le_refl _) hg2 HZ1.out.size); have HO2 := Lib.hid hown2; clear hown2 hg2))
              have hfin : w2.ownsRow wz.heap.size 27 4 v2 (ogSrt l (k + 1)).length (ogCells (ogSrt l (k + 1))) := by
                rw [HINS.out, ← HRL.out, ogCells_append, List.length_append, HTM.out]
                exact HO2.out
              obtain ⟨A4, c4, rfl, hc4, hS4⟩ := ownsRow_ogc hfin
              have HS4 := Lib.hid hS4
              have hwy := HWY.out
              have hyz := HYZ.out
              have hz2' := HZ2.out
              have HBF := Lib.hid (HB.out.trans (((hwy.trans (hyz.mono hwy.size)).trans (hz2'.mono (Nat.le_trans hwy.size hyz.size))).mono HB.out.size))
              clear hfin hS4 hwy hyz hz2' HO1 HO2 HZ1 HZ2 HR hs2
              go_roundg g
              case measure => omega
              case rel => exact ⟨k + 1, A4, c4, by have := HG.out; omega, rfl, rfl, hc4, HS4.out, HBF.out⟩
            · rw [decide_eq_false hlt] at hless0
              have hall2 : ∀ j, j < m + 1 → ¬ ogLt (ok, ox, of', ot) (srt.getD j (0, 0, 0, 0)) := fun j hj => by
                rcases Nat.lt_or_ge j m with h | h
                · exact HALL.out j h
                · obtain rfl : j = m := by omega
                  exact hlt
              have HALL2 := Lib.hid hall2
              clear hlt hall2
              obtain ⟨so, hso⟩ : ∃ o, srt.getD m (0, 0, 0, 0) = o := ⟨_, rfl⟩
              rw [hso] at s0 s1 s2 s3 hless0
              clear hso
              obtain ⟨sk, sx, sf, st⟩ := so
              simp only at s0 s1 s2 s3
              have hless : ∀ W, Calls Try.prog 28 #[.agg #[.int .u8 ok, .int .i64 ox, .int .i64 of', .int .i64 ot], .agg #[.int .u8 sk, .int .i64 sx, .int .i64 sf, .int .i64 st]] W fun e w' => e = .returned (.bool false) ∧ Below W.heap.size W w' := fun W => (hless0 W).mono fun e w' ⟨he, hw⟩ => ⟨he, by rw [hw]; exact twoOg_below _ _ _⟩
              clear hless0
              subst hA3
              obtain ⟨g2, rfl⟩ : ∃ g2, gk = g2 + 1 := ⟨gk - 1, by omega⟩
              have HG2 := Lib.hid hmg
              clear hmg
              go_wp2_with fail
              refine region_calls (w0 := wi) (fun jq => match jq with | 0 => .int .i64 (m : Int) | 1 => .slice (some ⟨gs, os, none⟩) n3 c3 | 2 => .int .i64 (n3 : Int) | 3 => .bool true | 4 => .bool true | 5 => .slice (some ⟨b, off, none⟩) l.length c | 6 => .int .i64 (k : Int) | 7 => .pointer (some ⟨b, off + k * 4, none⟩) | 8 => .agg #[.int .u8 ok, .int .i64 ox, .int .i64 of', .int .i64 ot] | 9 => .slice (some ⟨gs, os, none⟩) n3 c3 | 10 => .int .i64 (m : Int) | 11 => .pointer (some ⟨gs, os + m * 4, none⟩) | 12 => .agg #[.int .u8 sk, .int .i64 sx, .int .i64 sf, .int .i64 st] | 13 => .bool false | 14 => .bool true | 15 => .bool true | _ => undef) (by kernel_rfl) (by kernel_rfl) ?_ ?_
              · intro iq oq ho aq W hI hdep hrest hgd
                have r5 : aq.eval (.tmp 5) = .int .i64 (m : Int) := hrest 5 (apart_of (by kernel_rfl))
                have r3 : aq.eval (.tmp 3) = .slice (some ⟨gs, os, none⟩) n3 c3 := hrest 3 (apart_of (by kernel_rfl))
                have r0 : aq.eval (.tmp 0) = .slice (some ⟨b, off, none⟩) l.length c := hrest 0 (apart_of (by kernel_rfl))
                have r4 : aq.eval (.tmp 4) = .int .i64 (k : Int) := hrest 4 (apart_of (by kernel_rfl))
                have hc : ∀ v, aq.eval (.const v) = v := fun _ => rfl
                have hfn : ∀ f, aq.eval (.func f) = .func (.func f) #[] #[] := fun _ => rfl
                clear hrest
                rcases iq with _ | _ | _ | _ | _ | _ | _ | _ | _ | _ | _ | _ | _ | _ | _ | _ | iq
                · injection ho with ho
                  subst ho
                  clear hdep hgd
                  refine ⟨fun _ => .inl ?_, fun hw => (by simp [Region.wanted] at hw)⟩
                  clear hI
                  generalize aq.eval = ρ at *
                  simp [go_sem, r5]
                · injection ho with ho
                  subst ho
                  clear hdep hgd
                  refine ⟨fun _ => .inl ?_, fun hw => (by simp [Region.wanted] at hw)⟩
                  clear hI
                  generalize aq.eval = ρ at *
                  simp [go_sem, r3]
                · injection ho with ho
                  subst ho
                  have d1 : aq.eval (.tmp 28) = .slice (some ⟨gs, os, none⟩) n3 c3 := hdep ⟨1, .data⟩ (by simp) rfl _ _ rfl rfl
                  clear hdep hgd
                  refine ⟨fun _ => .inl ?_, fun hw => (by simp [Region.wanted] at hw)⟩
                  clear hI
                  generalize aq.eval = ρ at *
                  simp [go_sem, d1]
                · injection ho with ho
                  subst ho
                  have d0 : aq.eval (.tmp 27) = .int .i64 (m : Int) := hdep ⟨0, .data⟩ (by simp) rfl _ _ rfl rfl
                  have d2 : aq.eval (.tmp 29) = .int .i64 (n3 : Int) := hdep ⟨2, .data⟩ (by simp) rfl _ _ rfl rfl
                  clear hdep hgd
                  refine ⟨fun _ => .inl ?_, fun hw => (by simp [Region.wanted] at hw)⟩
                  clear hI
                  generalize aq.eval = ρ at *
                  simp [go_sem, d0, d2, hmn]
                · injection ho with ho
                  subst ho
                  have d3 : aq.eval (.tmp 30) = .bool true := hdep ⟨3, .data⟩ (by simp) rfl _ _ rfl rfl
                  clear hdep hgd
                  refine ⟨fun _ => .inl ?_, fun hw => (by simp [Region.wanted] at hw)⟩
                  clear hI
                  generalize aq.eval = ρ at *
                  simp [go_sem, d3]
                · injection ho with ho
                  subst ho
                  have h8 : aq.tmps.getD 31 undef = .bool true := hdep ⟨4, .guard⟩ (by simp) rfl _ _ rfl rfl
                  have hwd := hgd 4 true rfl _ _ rfl rfl true h8
                  clear hdep hgd
                  refine ⟨fun _ => .inl ?_, fun hw => (by rw [hwd] at hw; cases hw)⟩
                  clear h8 hwd
                  clear hI
                  generalize aq.eval = ρ at *
                  simp [go_sem, r0]
                · injection ho with ho
                  subst ho
                  have h8 : aq.tmps.getD 31 undef = .bool true := hdep ⟨4, .guard⟩ (by simp) rfl _ _ rfl rfl
                  have hwd := hgd 4 true rfl _ _ rfl rfl true h8
                  clear hdep hgd
                  refine ⟨fun _ => .inl ?_, fun hw => (by rw [hwd] at hw; cases hw)⟩
                  clear h8 hwd
                  clear hI
                  generalize aq.eval = ρ at *
                  simp [go_sem, r4]
                · injection ho with ho
                  subst ho
                  have d5 : aq.eval (.tmp 32) = .slice (some ⟨b, off, none⟩) l.length c := hdep ⟨5, .data⟩ (by simp) rfl _ _ rfl rfl
                  have d6 : aq.eval (.tmp 33) = .int .i64 (k : Int) := hdep ⟨6, .data⟩ (by simp) rfl _ _ rfl rfl
                  have h8 : aq.tmps.getD 31 undef = .bool true := hdep ⟨4, .guard⟩ (by simp) rfl _ _ rfl rfl
                  have hwd := hgd 4 true rfl _ _ rfl rfl true h8
                  clear hdep hgd
                  refine ⟨fun _ => .inl ?_, fun hw => (by rw [hwd] at hw; cases hw)⟩
                  clear h8 hwd
                  clear hI
                  generalize aq.eval = ρ at *
                  simp [go_sem, d5, d6, hk]
                · injection ho with ho
                  subst ho
                  have d7 : aq.eval (.tmp 34) = .pointer (some ⟨b, off + k * 4, none⟩) := hdep ⟨7, .data⟩ (by simp) rfl _ _ rfl rfl
                  have h8 : aq.tmps.getD 31 undef = .bool true := hdep ⟨4, .guard⟩ (by simp) rfl _ _ rfl rfl
                  have hwd := hgd 4 true rfl _ _ rfl rfl true h8
                  clear hdep hgd
                  have f0' : W.cell? ⟨b, off + k * 4, none⟩ = _ := (hI.cell (p := ⟨b, off + k * 4, none⟩) hbli).trans w0
                  have f1' : W.cell? ⟨b, off + k * 4 + 1, none⟩ = _ := (hI.cell (p := ⟨b, off + k * 4 + 1, none⟩) hbli).trans w1
                  have f2' : W.cell? ⟨b, off + k * 4 + 2, none⟩ = _ := (hI.cell (p := ⟨b, off + k * 4 + 2, none⟩) hbli).trans w2
                  have f3' : W.cell? ⟨b, off + k * 4 + 3, none⟩ = _ := (hI.cell (p := ⟨b, off + k * 4 + 3, none⟩) hbli).trans w3
                  refine ⟨fun _ => .inl ?_, fun hw => (by rw [hwd] at hw; cases hw)⟩
                  clear h8 hwd
                  clear hI
                  generalize aq.eval = ρ at *
                  simp [go_sem, d7, f0', f1', f2', f3']
                · injection ho with ho
                  subst ho
                  have h8 : aq.tmps.getD 31 undef = .bool true := hdep ⟨4, .guard⟩ (by simp) rfl _ _ rfl rfl
                  have hwd := hgd 4 true rfl _ _ rfl rfl true h8
                  clear hdep hgd
                  refine ⟨fun _ => .inl ?_, fun hw => (by rw [hwd] at hw; cases hw)⟩
                  clear h8 hwd
                  clear hI
                  generalize aq.eval = ρ at *
                  simp [go_sem, r3]
                · injection ho with ho
                  subst ho
                  have h8 : aq.tmps.getD 31 undef = .bool true := hdep ⟨4, .guard⟩ (by simp) rfl _ _ rfl rfl
                  have hwd := hgd 4 true rfl _ _ rfl rfl true h8
                  clear hdep hgd
                  refine ⟨fun _ => .inl ?_, fun hw => (by rw [hwd] at hw; cases hw)⟩
                  clear h8 hwd
                  clear hI
                  generalize aq.eval = ρ at *
                  simp [go_sem, r5]
                · injection ho with ho
                  subst ho
                  have d9 : aq.eval (.tmp 36) = .slice (some ⟨gs, os, none⟩) n3 c3 := hdep ⟨9, .data⟩ (by simp) rfl _ _ rfl rfl
                  have d10 : aq.eval (.tmp 37) = .int .i64 (m : Int) := hdep ⟨10, .data⟩ (by simp) rfl _ _ rfl rfl
                  have h8 : aq.tmps.getD 31 undef = .bool true := hdep ⟨4, .guard⟩ (by simp) rfl _ _ rfl rfl
                  have hwd := hgd 4 true rfl _ _ rfl rfl true h8
                  clear hdep hgd
                  refine ⟨fun _ => .inl ?_, fun hw => (by rw [hwd] at hw; cases hw)⟩
                  clear h8 hwd
                  clear hI
                  generalize aq.eval = ρ at *
                  simp [go_sem, d9, d10, hmn]
                · injection ho with ho
                  subst ho
                  have d11 : aq.eval (.tmp 38) = .pointer (some ⟨gs, os + m * 4, none⟩) := hdep ⟨11, .data⟩ (by simp) rfl _ _ rfl rfl
                  have h8 : aq.tmps.getD 31 undef = .bool true := hdep ⟨4, .guard⟩ (by simp) rfl _ _ rfl rfl
                  have hwd := hgd 4 true rfl _ _ rfl rfl true h8
                  clear hdep hgd
                  have s0' : W.cell? ⟨gs, os + m * 4, none⟩ = _ := (hI.cell (p := ⟨gs, os + m * 4, none⟩) hgs).trans s0
                  have s1' : W.cell? ⟨gs, os + m * 4 + 1, none⟩ = _ := (hI.cell (p := ⟨gs, os + m * 4 + 1, none⟩) hgs).trans s1
                  have s2' : W.cell? ⟨gs, os + m * 4 + 2, none⟩ = _ := (hI.cell (p := ⟨gs, os + m * 4 + 2, none⟩) hgs).trans s2
                  have s3' : W.cell? ⟨gs, os + m * 4 + 3, none⟩ = _ := (hI.cell (p := ⟨gs, os + m * 4 + 3, none⟩) hgs).trans s3
                  refine ⟨fun _ => .inl ?_, fun hw => (by rw [hwd] at hw; cases hw)⟩
                  clear h8 hwd
                  clear hI
                  generalize aq.eval = ρ at *
                  simp [go_sem, d11, s0', s1', s2', s3']
                · injection ho with ho
                  subst ho
                  have d8 : aq.eval (.tmp 35) = .agg #[.int .u8 ok, .int .i64 ox, .int .i64 of', .int .i64 ot] := hdep ⟨8, .data⟩ (by simp) rfl _ _ rfl rfl
                  have d12 : aq.eval (.tmp 39) = .agg #[.int .u8 sk, .int .i64 sx, .int .i64 sf, .int .i64 st] := hdep ⟨12, .data⟩ (by simp) rfl _ _ rfl rfl
                  have h8 : aq.tmps.getD 31 undef = .bool true := hdep ⟨4, .guard⟩ (by simp) rfl _ _ rfl rfl
                  have hwd := hgd 4 true rfl _ _ rfl rfl true h8
                  clear hdep hgd
                  refine ⟨fun _ => .inr ⟨28, #[.agg #[.int .u8 ok, .int .i64 ox, .int .i64 of', .int .i64 ot], .agg #[.int .u8 sk, .int .i64 sx, .int .i64 sf, .int .i64 st]], ?_, hless W⟩, fun hw => (by rw [hwd] at hw; cases hw)⟩
                  clear h8 hwd
                  clear hI
                  generalize aq.eval = ρ at *
                  simp [go_sem, d8, d12, hfn]
                · injection ho with ho
                  subst ho
                  have d13 : aq.eval (.tmp 40) = .bool false := hdep ⟨13, .data⟩ (by simp) rfl _ _ rfl rfl
                  have h8 : aq.tmps.getD 31 undef = .bool true := hdep ⟨4, .guard⟩ (by simp) rfl _ _ rfl rfl
                  have hwd := hgd 4 true rfl _ _ rfl rfl true h8
                  clear hdep hgd
                  refine ⟨fun _ => .inl ?_, fun hw => (by rw [hwd] at hw; cases hw)⟩
                  clear h8 hwd
                  clear hI
                  generalize aq.eval = ρ at *
                  simp [go_sem, d13]
                · injection ho with ho
                  subst ho
                  have d4 : aq.eval (.tmp 31) = .bool true := hdep ⟨4, .data⟩ (by simp) rfl _ _ rfl rfl
                  have d14 : aq.eval (.tmp 41) = .bool true := hdep ⟨14, .data⟩ (by simp) rfl _ _ rfl rfl
                  clear hdep hgd
                  refine ⟨fun _ => .inl ?_, fun hw => (by simp [Region.wanted] at hw)⟩
                  clear hI
                  generalize aq.eval = ρ at *
                  simp [go_sem, d4, d14]
                · simp at ho
              intro wy hb
              simp only [putAll, Act.put, List.setIfInBounds_toArray, List.set_cons_zero, List.set_cons_succ, Nat.reduceAdd]
              have HWY := Lib.hid (HBI.out.trans (hb.mono HBI.out.size))
              clear hb s0 s1 s2 s3 hless
              go_wp2_with fail
              go_roundg g2
              case measure => omega
              case rel => exact ⟨m + 1, by have := HG2.out; omega, by go_num, HALL2.out, HWY.out⟩
          · have hins := ogIns_at (ok, ox, of', ot) srt m HALL.out (.inl (by have := HN3.out; omega))
            rw [← HLV.out] at hins
            have HINS := Lib.hid hins
            clear hins
            have hme' : ¬ m < n3 := hme
            clear hme
            have hme : n3 ≤ m := by omega
            have hmle : m ≤ n3 := by omega
            clear hme'
            go_wp2_with fail
            refine region_calls (w0 := wi) (fun jq => match jq with | 0 => .int .i64 (m : Int) | 1 => .slice A3 n3 c3 | 2 => .int .i64 (n3 : Int) | 3 => .bool false | 4 => .bool false | 5 => undef | 6 => undef | 7 => undef | 8 => undef | 9 => undef | 10 => undef | 11 => undef | 12 => undef | 13 => undef | 14 => undef | 15 => .bool false | _ => undef) (by kernel_rfl) (by kernel_rfl) ?_ ?_
            · intro iq oq ho aq W hI hdep hrest hgd
              have r5 : aq.eval (.tmp 5) = .int .i64 (m : Int) := hrest 5 (apart_of (by kernel_rfl))
              have r3 : aq.eval (.tmp 3) = .slice A3 n3 c3 := hrest 3 (apart_of (by kernel_rfl))
              have hc : ∀ v, aq.eval (.const v) = v := fun _ => rfl
              have hfn : ∀ f, aq.eval (.func f) = .func (.func f) #[] #[] := fun _ => rfl
              clear hrest
              rcases iq with _ | _ | _ | _ | _ | _ | _ | _ | _ | _ | _ | _ | _ | _ | _ | _ | iq
              · injection ho with ho
                subst ho
                clear hdep hgd
                refine ⟨fun _ => .inl ?_, fun hw => (by simp [Region.wanted] at hw)⟩
                clear hI
                generalize aq.eval = ρ at *
                simp [go_sem, r5]
              · injection ho with ho
                subst ho
                clear hdep hgd
                refine ⟨fun _ => .inl ?_, fun hw => (by simp [Region.wanted] at hw)⟩
                clear hI
                generalize aq.eval = ρ at *
                simp [go_sem, r3]
              · injection ho with ho
                subst ho
                have d1 : aq.eval (.tmp 28) = .slice A3 n3 c3 := hdep ⟨1, .data⟩ (by simp) rfl _ _ rfl rfl
                clear hdep hgd
                refine ⟨fun _ => .inl ?_, fun hw => (by simp [Region.wanted] at hw)⟩
                clear hI
                generalize aq.eval = ρ at *
                simp [go_sem, d1]
              · injection ho with ho
                subst ho
                have d0 : aq.eval (.tmp 27) = .int .i64 (m : Int) := hdep ⟨0, .data⟩ (by simp) rfl _ _ rfl rfl
                have d2 : aq.eval (.tmp 29) = .int .i64 (n3 : Int) := hdep ⟨2, .data⟩ (by simp) rfl _ _ rfl rfl
                clear hdep hgd
                refine ⟨fun _ => .inl ?_, fun hw => (by simp [Region.wanted] at hw)⟩
                clear hI
                generalize aq.eval = ρ at *
                simp [go_sem, d0, d2, hme]
              · injection ho with ho
                subst ho
                have d3 : aq.eval (.tmp 30) = .bool false := hdep ⟨3, .data⟩ (by simp) rfl _ _ rfl rfl
                clear hdep hgd
                refine ⟨fun _ => .inl ?_, fun hw => (by simp [Region.wanted] at hw)⟩
                clear hI
                generalize aq.eval = ρ at *
                simp [go_sem, d3]
              · injection ho with ho
                subst ho
                have h8 : aq.tmps.getD 31 undef = .bool false := hdep ⟨4, .guard⟩ (by simp) rfl _ _ rfl rfl
                have hwd := hgd 4 true rfl _ _ rfl rfl false h8
                exact ⟨fun hw => (by rw [hwd] at hw; cases hw), fun _ => rfl⟩
              · injection ho with ho
                subst ho
                have h8 : aq.tmps.getD 31 undef = .bool false := hdep ⟨4, .guard⟩ (by simp) rfl _ _ rfl rfl
                have hwd := hgd 4 true rfl _ _ rfl rfl false h8
                exact ⟨fun hw => (by rw [hwd] at hw; cases hw), fun _ => rfl⟩
              · injection ho with ho
                subst ho
                have h8 : aq.tmps.getD 31 undef = .bool false := hdep ⟨4, .guard⟩ (by simp) rfl _ _ rfl rfl
                have hwd := hgd 4 true rfl _ _ rfl rfl false h8
                exact ⟨fun hw => (by rw [hwd] at hw; cases hw), fun _ => rfl⟩
              · injection ho with ho
                subst ho
                have h8 : aq.tmps.getD 31 undef = .bool false := hdep ⟨4, .guard⟩ (by simp) rfl _ _ rfl rfl
                have hwd := hgd 4 true rfl _ _ rfl rfl false h8
                exact ⟨fun hw => (by rw [hwd] at hw; cases hw), fun _ => rfl⟩
              · injection ho with ho
                subst ho
                have h8 : aq.tmps.getD 31 undef = .bool false := hdep ⟨4, .guard⟩ (by simp) rfl _ _ rfl rfl
                have hwd := hgd 4 true rfl _ _ rfl rfl false h8
                exact ⟨fun hw => (by rw [hwd] at hw; cases hw), fun _ => rfl⟩
              · injection ho with ho
                subst ho
                have h8 : aq.tmps.getD 31 undef = .bool false := hdep ⟨4, .guard⟩ (by simp) rfl _ _ rfl rfl
                have hwd := hgd 4 true rfl _ _ rfl rfl false h8
                exact ⟨fun hw => (by rw [hwd] at hw; cases hw), fun _ => rfl⟩
              · injection ho with ho
                subst ho
                have h8 : aq.tmps.getD 31 undef = .bool false := hdep ⟨4, .guard⟩ (by simp) rfl _ _ rfl rfl
                have hwd := hgd 4 true rfl _ _ rfl rfl false h8
                exact ⟨fun hw => (by rw [hwd] at hw; cases hw), fun _ => rfl⟩
              · injection ho with ho
                subst ho
                have h8 : aq.tmps.getD 31 undef = .bool false := hdep ⟨4, .guard⟩ (by simp) rfl _ _ rfl rfl
                have hwd := hgd 4 true rfl _ _ rfl rfl false h8
                exact ⟨fun hw => (by rw [hwd] at hw; cases hw), fun _ => rfl⟩
              · injection ho with ho
                subst ho
                have h8 : aq.tmps.getD 31 undef = .bool false := hdep ⟨4, .guard⟩ (by simp) rfl _ _ rfl rfl
                have hwd := hgd 4 true rfl _ _ rfl rfl false h8
                exact ⟨fun hw => (by rw [hwd] at hw; cases hw), fun _ => rfl⟩
              · injection ho with ho
                subst ho
                have h8 : aq.tmps.getD 31 undef = .bool false := hdep ⟨4, .guard⟩ (by simp) rfl _ _ rfl rfl
                have hwd := hgd 4 true rfl _ _ rfl rfl false h8
                exact ⟨fun hw => (by rw [hwd] at hw; cases hw), fun _ => rfl⟩
              · injection ho with ho
                subst ho
                have d4 : aq.eval (.tmp 31) = .bool false := hdep ⟨4, .data⟩ (by simp) rfl _ _ rfl rfl
                clear hdep hgd
                refine ⟨fun _ => .inl ?_, fun hw => (by simp [Region.wanted] at hw)⟩
                clear hI
                generalize aq.eval = ρ at *
                simp [go_sem, d4, hc]
              · simp at ho
            intro wy hb
            simp only [putAll, Act.put, List.setIfInBounds_toArray, List.set_cons_zero, List.set_cons_succ, Nat.reduceAdd]
            have HWY := Lib.hid (HBI.out.trans (hb.mono HBI.out.size))
            clear hb
            clear w0 w1 w2 w3
            have g0 := (HWY.out.cell (p := ⟨b, off + k * 4, none⟩) hbl).trans f0
            have g1 := (HWY.out.cell (p := ⟨b, off + k * 4 + 1, none⟩) hbl).trans f1
            have g2 := (HWY.out.cell (p := ⟨b, off + k * 4 + 2, none⟩) hbl).trans f2
            have g3 := (HWY.out.cell (p := ⟨b, off + k * 4 + 3, none⟩) hbl).trans f3
            have hbly : b < wy.heap.size := by have := HWY.out.size; omega
            have hS := HS.out.upto HWY.out
            have HSD := Lib.hid (hS.drop m hc3)
            have HST := Lib.hid (hS.take m)
            have hs1 := slice_l A3 n3 c3 m hmle (by rw [← HN3.out]; exact hc3)
            have hs2 := slice_h A3 n3 c3 m (by have := HN3.out; omega)
            have HST0 := Lib.hid (hS.part 0 m hc3)
            rw [List.drop_zero] at HST0
            have HNM : Hid ((srt.drop m).length = n3 - m) := by show _ = _; rw [List.length_drop, HN3.out]
            have HTM : Hid ((srt.take m).length = m) := by show _ = _; rw [List.length_take, HN3.out]; omega
            generalize subA A3 c3 m = Am at *
            generalize subA A3 c3 0 = Az at *
            generalize c3 - m = cm at *
            obtain ⟨nm, hnm⟩ : ∃ x, n3 - m = x := ⟨_, rfl⟩
            rw [hnm] at hs1 HNM
            have hnm2 : nm ≤ 1000000 := by omega
            clear hnm hS
            obtain ⟨rl, erl⟩ : ∃ x, x = (ok, ox, of', ot) :: srt.drop m := ⟨_, rfl⟩
            have hrll : rl.length ≤ 1000001 := by rw [erl, List.length_cons, HNM.out]; omega
            have HRL := Lib.hid erl
            clear erl
            go_wp2_with fail
            refine region_eachX (RestF (fun j => match j with | 0 => .slice (some ⟨b, off, none⟩) l.length c | 1 => .int .i64 (k : Int) | 2 => .pointer (some ⟨b, off + k * 4, none⟩) | 3 => .agg #[.int .u8 ok, .int .i64 ox, .int .i64 of', .int .i64 ot] | 5 => .slice A3 n3 c3 | 6 => .int .i64 (m : Int) | 7 => .slice Am nm cm | _ => undef) wy.heap.size (ok, ox, of', ot) rl) (fun _ W => Below wy.heap.size wy W) (by kernel_rfl) (by kernel_rfl) (Below.refl _ _).drew ?_ ?_
            · intro iq oq ho done aq W hni hcl hI hdep hrest
              have r0 : aq.eval (.tmp 0) = .slice (some ⟨b, off, none⟩) l.length c := hrest 0 (apart_of (by kernel_rfl))
              have r4 : aq.eval (.tmp 4) = .int .i64 (k : Int) := hrest 4 (apart_of (by kernel_rfl))
              have r3 : aq.eval (.tmp 3) = .slice A3 n3 c3 := hrest 3 (apart_of (by kernel_rfl))
              have r5 : aq.eval (.tmp 5) = .int .i64 (m : Int) := hrest 5 (apart_of (by kernel_rfl))
              clear hrest
              rcases iq with _ | _ | _ | _ | _ | _ | _ | _ | _ | _ | iq
              · injection ho with ho
                subst ho
                refine ⟨fun _ K Q hK => wp_of_value (v := .slice (some ⟨b, off, none⟩) l.length c) ?_ (hK _ _ hI rfl fun j u _ _ h => h.keep (Below.refl _ _) _), fun hw => by simp [Region.wanted] at hw⟩
                clear hK hdep hI hcl hni
                generalize aq.eval = ρ at *
                simp [go_sem, r0]
              · injection ho with ho
                subst ho
                refine ⟨fun _ K Q hK => wp_of_value (v := .int .i64 (k : Int)) ?_ (hK _ _ hI rfl fun j u _ _ h => h.keep (Below.refl _ _) _), fun hw => by simp [Region.wanted] at hw⟩
                clear hK hdep hI hcl hni
                generalize aq.eval = ρ at *
                simp [go_sem, r4]
              · injection ho with ho
                subst ho
                have d0 : aq.eval (.tmp 45) = .slice (some ⟨b, off, none⟩) l.length c := ((hdep ⟨0, .data⟩ (by simp) rfl).2 _ rfl).1 _ rfl
                have d1 : aq.eval (.tmp 46) = .int .i64 (k : Int) := ((hdep ⟨1, .data⟩ (by simp) rfl).2 _ rfl).1 _ rfl
                refine ⟨fun _ K Q hK => wp_of_value (v := .pointer (some ⟨b, off + k * 4, none⟩)) ?_ (hK _ _ hI rfl fun j u _ _ h => h.keep (Below.refl _ _) _), fun hw => by simp [Region.wanted] at hw⟩
                clear hK hdep hI hcl hni
                generalize aq.eval = ρ at *
                simp [go_sem, d0, d1, hk]
              · injection ho with ho
                subst ho
                have d2 : aq.eval (.tmp 47) = .pointer (some ⟨b, off + k * 4, none⟩) := ((hdep ⟨2, .data⟩ (by simp) rfl).2 _ rfl).1 _ rfl
                have f0' : W.cell? ⟨b, off + k * 4, none⟩ = _ := (hI.cell (p := ⟨b, off + k * 4, none⟩) hbly).trans g0
                have f1' : W.cell? ⟨b, off + k * 4 + 1, none⟩ = _ := (hI.cell (p := ⟨b, off + k * 4 + 1, none⟩) hbly).trans g1
                have f2' : W.cell? ⟨b, off + k * 4 + 2, none⟩ = _ := (hI.cell (p := ⟨b, off + k * 4 + 2, none⟩) hbly).trans g2
                have f3' : W.cell? ⟨b, off + k * 4 + 3, none⟩ = _ := (hI.cell (p := ⟨b, off + k * 4 + 3, none⟩) hbly).trans g3
                refine ⟨fun _ K Q hK => wp_of_value (v := .agg #[.int .u8 ok, .int .i64 ox, .int .i64 of', .int .i64 ot]) ?_ (hK _ _ hI rfl fun j u _ _ h => h.keep (Below.refl _ _) _), fun hw => by simp [Region.wanted] at hw⟩
                clear hK hdep hI hcl hni
                generalize aq.eval = ρ at *
                simp [go_sem, d2, f0', f1', f2', f3']
              · injection ho with ho
                subst ho
                have d3 : aq.eval (.tmp 48) = .agg #[.int .u8 ok, .int .i64 ox, .int .i64 of', .int .i64 ot] := ((hdep ⟨3, .data⟩ (by simp) rfl).2 _ rfl).1 _ rfl
                have hb : Below W.heap.size W (W.alloc (.cells #[.int .u8 ok, .int .i64 ox, .int .i64 of', .int .i64 ot] 27)) := (Below.refl _ _).alloc (Nat.le_refl _) _
                refine ⟨fun _ K Q hK => wp_of_value (v := .slice (some ⟨W.heap.size, 0, none⟩) 1 1) (w' := W.alloc (.cells #[.int .u8 ok, .int .i64 ox, .int .i64 of', .int .i64 ot] 27)) ?_ (hK _ _ (hI.alloc hI.size _) (fun _ => ownsRow_base (row_one W (ok, ox, of', ot)) hI.size) fun _ _ _ _ h => h.keep hb _), fun hw => by simp [Region.wanted] at hw⟩
                clear hK hdep hI hcl hni hb
                generalize aq.eval = ρ at *
                simp [go_sem, d3]
              · injection ho with ho
                subst ho
                refine ⟨fun _ K Q hK => wp_of_value (v := .slice A3 n3 c3) ?_ (hK _ _ hI rfl fun j u _ _ h => h.keep (Below.refl _ _) _), fun hw => by simp [Region.wanted] at hw⟩
                clear hK hdep hI hcl hni
                generalize aq.eval = ρ at *
                simp [go_sem, r3]
              · injection ho with ho
                subst ho
                refine ⟨fun _ K Q hK => wp_of_value (v := .int .i64 (m : Int)) ?_ (hK _ _ hI rfl fun j u _ _ h => h.keep (Below.refl _ _) _), fun hw => by simp [Region.wanted] at hw⟩
                clear hK hdep hI hcl hni
                generalize aq.eval = ρ at *
                simp [go_sem, r5]
              · injection ho with ho
                subst ho
                have d5 : aq.eval (.tmp 50) = .slice A3 n3 c3 := ((hdep ⟨5, .data⟩ (by simp) rfl).2 _ rfl).1 _ rfl
                have d6 : aq.eval (.tmp 51) = .int .i64 (m : Int) := ((hdep ⟨6, .data⟩ (by simp) rfl).2 _ rfl).1 _ rfl
                refine ⟨fun _ K Q hK => wp_of_value (v := .slice Am nm cm) ?_ (hK _ _ hI rfl fun j u _ _ h => h.keep (Below.refl _ _) _), fun hw => by simp [Region.wanted] at hw⟩
                clear hK hdep hI hcl hni
                generalize aq.eval = ρ at *
                simp [go_sem, d5, d6, hs1]
              · injection ho with ho
                subst ho
                have d7 : aq.eval (.tmp 52) = .slice Am nm cm := ((hdep ⟨7, .data⟩ (by simp) rfl).2 _ rfl).1 _ rfl
                have hown : W.ownsRow wy.heap.size 27 4 (aq.eval (.tmp 49)) 1 (ogCells [(ok, ox, of', ot)]) := ((hdep ⟨4, .data⟩ (by simp) rfl).2 _ rfl).1 _ rfl hni
                have hZ : OgsR W W.heap.size Am (srt.drop m) := (HSD.out.below hI).more hI.size
                refine ⟨fun _ K Q hK => ?_, fun hw => by simp [Region.wanted] at hw⟩
                refine wp_append_any W (.tmp 49) (.tmp 52) _ rfl wy.heap.size 27 i0 _ 4 32 Try.underlying22 hi hz0 hz1 hz2 rfl (by omega) (aq.eval (.tmp 49)) 1 (ogCells [(ok, ox, of', ot)]) rfl hown Am nm cm (ogCells (srt.drop m)) d7 (by have := hZ.toSrc; rwa [HNM.out] at this) (one_ogs _) (by simp only [maxLen]; omega) (by omega) hI.size ?_
                intro v w' hown' hg _
                have hbl : Below wy.heap.size wy w' := below_of_row hI hown (Nat.le_refl _) hg hI.size
                have hrow : w'.ownsRow wy.heap.size 27 4 v rl.length (ogCells rl) := by rw [HRL.out, List.length_cons, HNM.out, ogCells_cons, Nat.add_comm]; simpa [ogCells] using hown'
                refine hK _ _ hbl hrow fun j u hd _ h => ?_
                rcases j with _ | _ | _ | _ | _ | _ | _ | _ | _ | _ | j
                · exact h
                · exact h
                · exact h
                · exact h
                · exact fun h7 => absurd (.inl rfl) h7
                · exact h
                · exact h
                · exact h
                · exact absurd hd hni
                · exact absurd (hcl 9 _ rfl hd ⟨8, .data⟩ (by simp) rfl) hni
                · exact h
              · injection ho with ho
                subst ho
                have h7 : W.ownsRow wy.heap.size 27 4 (aq.eval (.tmp 53)) rl.length (ogCells rl) := ((hdep ⟨8, .data⟩ (by simp) rfl).2 _ rfl).1 _ rfl
                obtain ⟨u, hu⟩ : ∃ u, aq.eval (.tmp 53) = u := ⟨_, rfl⟩
                rw [hu] at h7
                refine ⟨fun _ K Q hK => wp_of_value (v := u) ?_ (hK _ _ hI h7 fun j u _ _ h => h.keep (Below.refl _ _) _), fun hw => by simp [Region.wanted] at hw⟩
                clear hK hdep hI hcl hni h7
                generalize aq.eval = ρ at *
                simp [go_sem, hu]
              · simp at ho
            intro done vs wz hdn hI hF
            have e0 : vs 0 = .slice (some ⟨b, off, none⟩) l.length c := hF 0 (by decide)
            have e1 : vs 1 = .int .i64 (k : Int) := hF 1 (by decide)
            have e2 : vs 2 = .pointer (some ⟨b, off + k * 4, none⟩) := hF 2 (by decide)
            have e3 : vs 3 = .agg #[.int .u8 ok, .int .i64 ox, .int .i64 of', .int .i64 ot] := hF 3 (by decide)
            have e5 : vs 5 = .slice A3 n3 c3 := hF 5 (by decide)
            have e6 : vs 6 = .int .i64 (m : Int) := hF 6 (by decide)
            have e7 : vs 7 = .slice Am nm cm := hF 7 (by decide)
            obtain ⟨Ar, cr, e9, _, hrl⟩ := ownsRow_ogc (show wz.ownsRow _ _ _ _ _ _ from hF 9 (by decide))
            have HR := Lib.hid hrl
            have HYZ := Lib.hid hI
            clear hF hI hrl hdn
            simp only [putAll, Act.put, List.setIfInBounds_toArray, List.set_cons_zero, List.set_cons_succ, Nat.reduceAdd, e0, e1, e2, e3, e5, e6, e7, e9]
            clear e0 e1 e2 e3 e5 e6 e7 e9
            clear g0 g1 g2 g3 hs1
            have HST1 := Lib.hid (HST0.out.upto HYZ.out)
            go_wp2_with (first | (at_builtin; refine wpList_append_any _ rfl (.const (.slice none 0 0)) (.tmp 56) _ rfl wz.heap.size 27 i0 _ 4 32 Try.underlying22 hi hz0 hz1 hz2 rfl (by omega) (.slice none 0 0) 0 [] rfl ⟨by simp, .inl ⟨rfl, rfl⟩⟩ Az m c3 (ogCells (srt.take m)) rfl (by have := HST1.out.toSrc; rwa [HTM.out] at this) (one_ogs _) (by simp only [maxLen]; omega) (by omega) (Nat.le_refl _) ?_; intro v1 w1 hown1 hg1 _; simp only [Nat.zero_add, List.nil_append] at hown1; have HO1 := Lib.hid hown1; have HZ1 := Lib.hid (show Below wz.heap.size wz w1 from (Below.refl _ _).grown hg1 (Nat.le_refl _) (by simp [Value.ownBlock])); clear hown1 hg1) | (at_builtin; refine wpList_append_any _ rfl (.tmp 57) (.tmp 58) _ rfl wz.heap.size 27 i0 _ 4 32 Try.underlying22 hi hz0 hz1 hz2 rfl (by omega) v1 m (ogCells (srt.take m)) rfl HO1.out Ar rl.length cr (ogCells rl) rfl (HR.out.upto HZ1.out).toSrc (one_ogs _) (by simp only [maxLen]; omega) (by omega) HZ1.out.size ?_; intro v2 w2 hown2 hg2 _; have HZ2 := Lib.hid (below_of_row HZ1.out HO1.out (Nat.le_refl _) hg2 HZ1.out.size); have HO2 := Lib.hid hown2; clear hown2 hg2))
            have hfin : w2.ownsRow wz.heap.size 27 4 v2 (ogSrt l (k + 1)).length (ogCells (ogSrt l (k + 1))) := by
              rw [HINS.out, ← HRL.out, ogCells_append, List.length_append, HTM.out]
              exact HO2.out
            obtain ⟨A4, c4, rfl, hc4, hS4⟩ := ownsRow_ogc hfin
            have HS4 := Lib.hid hS4
            have hwy := HWY.out
            have hyz := HYZ.out
            have hz2' := HZ2.out
            have HBF := Lib.hid (HB.out.trans (((hwy.trans (hyz.mono hwy.size)).trans (hz2'.mono (Nat.le_trans hwy.size hyz.size))).mono HB.out.size))
            clear hfin hS4 hwy hyz hz2' HO1 HO2 HZ1 HZ2 HR hs2
            go_roundg g
            case measure => omega
            case rel => exact ⟨k + 1, A4, c4, by have := HG.out; omega, rfl, rfl, hc4, HS4.out, HBF.out⟩
      · have hlv' : ot < of' := by omega
        have HDD := Lib.hid (hdead hlv')
        clear hlive hdead hlv
        have hlv := hlv'
        clear hlv'
        go_wp2_with fail
        refine region_calls (w0 := wr) (fun jq => match jq with | 0 => .slice (some ⟨b, off, none⟩) l.length c | 1 => .int .i64 (k : Int) | 2 => .pointer (some ⟨b, off + k * 4, none⟩) | 3 => .pointer (some ⟨b, off + k * 4 + 3, none⟩) | 4 => .int .i64 ot | 5 => .slice (some ⟨b, off, none⟩) l.length c | 6 => .int .i64 (k : Int) | 7 => .pointer (some ⟨b, off + k * 4, none⟩) | 8 => .pointer (some ⟨b, off + k * 4 + 2, none⟩) | 9 => .int .i64 of' | 10 => .bool true | _ => undef) (by kernel_rfl) (by kernel_rfl) ?_ ?_
        · intro iq oq ho aq W hI hdep hrest hgd
          have r0 : aq.eval (.tmp 0) = .slice (some ⟨b, off, none⟩) l.length c := hrest 0 (apart_of (by kernel_rfl))
          have r4 : aq.eval (.tmp 4) = .int .i64 (k : Int) := hrest 4 (apart_of (by kernel_rfl))
          have hc : ∀ v, aq.eval (.const v) = v := fun _ => rfl
          have hfn : ∀ f, aq.eval (.func f) = .func (.func f) #[] #[] := fun _ => rfl
          clear hrest
          rcases iq with _ | _ | _ | _ | _ | _ | _ | _ | _ | _ | _ | iq
          · injection ho with ho
            subst ho
            clear hdep hgd
            refine ⟨fun _ => .inl ?_, fun hw => (by simp [Region.wanted] at hw)⟩
            clear hI
            generalize aq.eval = ρ at *
            simp [go_sem, r0]
          · injection ho with ho
            subst ho
            clear hdep hgd
            refine ⟨fun _ => .inl ?_, fun hw => (by simp [Region.wanted] at hw)⟩
            clear hI
            generalize aq.eval = ρ at *
            simp [go_sem, r4]
          · injection ho with ho
            subst ho
            have d0 : aq.eval (.tmp 16) = .slice (some ⟨b, off, none⟩) l.length c := hdep ⟨0, .data⟩ (by simp) rfl _ _ rfl rfl
            have d1 : aq.eval (.tmp 17) = .int .i64 (k : Int) := hdep ⟨1, .data⟩ (by simp) rfl _ _ rfl rfl
            clear hdep hgd
            refine ⟨fun _ => .inl ?_, fun hw => (by simp [Region.wanted] at hw)⟩
            clear hI
            generalize aq.eval = ρ at *
            simp [go_sem, d0, d1, hk]
          · injection ho with ho
            subst ho
            have d2 : aq.eval (.tmp 18) = .pointer (some ⟨b, off + k * 4, none⟩) := hdep ⟨2, .data⟩ (by simp) rfl _ _ rfl rfl
            clear hdep hgd
            refine ⟨fun _ => .inl ?_, fun hw => (by simp [Region.wanted] at hw)⟩
            clear hI
            generalize aq.eval = ρ at *
            simp [go_sem, d2]
          · injection ho with ho
            subst ho
            have d3 : aq.eval (.tmp 19) = .pointer (some ⟨b, off + k * 4 + 3, none⟩) := hdep ⟨3, .data⟩ (by simp) rfl _ _ rfl rfl
            clear hdep hgd
            have f3' : W.cell? ⟨b, off + k * 4 + 3, none⟩ = _ := (hI.cell (p := ⟨b, off + k * 4 + 3, none⟩) hbl).trans f3
            refine ⟨fun _ => .inl ?_, fun hw => (by simp [Region.wanted] at hw)⟩
            clear hI
            generalize aq.eval = ρ at *
            simp [go_sem, d3, f3']
          · injection ho with ho
            subst ho
            clear hdep hgd
            refine ⟨fun _ => .inl ?_, fun hw => (by simp [Region.wanted] at hw)⟩
            clear hI
            generalize aq.eval = ρ at *
            simp [go_sem, r0]
          · injection ho with ho
            subst ho
            clear hdep hgd
            refine ⟨fun _ => .inl ?_, fun hw => (by simp [Region.wanted] at hw)⟩
            clear hI
            generalize aq.eval = ρ at *
            simp [go_sem, r4]
          · injection ho with ho
            subst ho
            have d5 : aq.eval (.tmp 21) = .slice (some ⟨b, off, none⟩) l.length c := hdep ⟨5, .data⟩ (by simp) rfl _ _ rfl rfl
            have d6 : aq.eval (.tmp 22) = .int .i64 (k : Int) := hdep ⟨6, .data⟩ (by simp) rfl _ _ rfl rfl
            clear hdep hgd
            refine ⟨fun _ => .inl ?_, fun hw => (by simp [Region.wanted] at hw)⟩
            clear hI
            generalize aq.eval = ρ at *
            simp [go_sem, d5, d6, hk]
          · injection ho with ho
            subst ho
            have d7 : aq.eval (.tmp 23) = .pointer (some ⟨b, off + k * 4, none⟩) := hdep ⟨7, .data⟩ (by simp) rfl _ _ rfl rfl
            clear hdep hgd
            refine ⟨fun _ => .inl ?_, fun hw => (by simp [Region.wanted] at hw)⟩
            clear hI
            generalize aq.eval = ρ at *
            simp [go_sem, d7]
          · injection ho with ho
            subst ho
            have d8 : aq.eval (.tmp 24) = .pointer (some ⟨b, off + k * 4 + 2, none⟩) := hdep ⟨8, .data⟩ (by simp) rfl _ _ rfl rfl
            clear hdep hgd
            have f2' : W.cell? ⟨b, off + k * 4 + 2, none⟩ = _ := (hI.cell (p := ⟨b, off + k * 4 + 2, none⟩) hbl).trans f2
            refine ⟨fun _ => .inl ?_, fun hw => (by simp [Region.wanted] at hw)⟩
            clear hI
            generalize aq.eval = ρ at *
            simp [go_sem, d8, f2']
          · injection ho with ho
            subst ho
            have d4 : aq.eval (.tmp 20) = .int .i64 ot := hdep ⟨4, .data⟩ (by simp) rfl _ _ rfl rfl
            have d9 : aq.eval (.tmp 25) = .int .i64 of' := hdep ⟨9, .data⟩ (by simp) rfl _ _ rfl rfl
            clear hdep hgd
            refine ⟨fun _ => .inl ?_, fun hw => (by simp [Region.wanted] at hw)⟩
            clear hI
            generalize aq.eval = ρ at *
            simp [go_sem, d4, d9, hlv]
          · simp at ho
        intro wx hb
        simp only [putAll, Act.put, List.setIfInBounds_toArray, List.set_cons_zero, List.set_cons_succ, Nat.reduceAdd]
        have HB2 := Lib.hid (HB.out.trans (hb.mono HB.out.size))
        have HS2 := Lib.hid (HS.out.upto hb)
        clear hb
        go_wp2_with fail
        go_roundg g
        case measure => omega
        case rel => exact ⟨k + 1, A3, c3, by have := HG.out; omega, by go_num, by rw [HDD.out], by rw [HDD.out]; exact hc3, by rw [HDD.out]; exact HS2.out, HB2.out⟩
end Go.Proofs.Ytklfijhlibpmaaa
