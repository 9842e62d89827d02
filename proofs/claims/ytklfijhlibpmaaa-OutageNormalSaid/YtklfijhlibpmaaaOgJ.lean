/- outage.Normal. -/
import Derived.Test.YtklfijhlibpmaaaOgI
import Derived.Test.YtklfijhlibpmaaaOngS
import Derived.Test.YtklfijhlibpmaaaAnyT
import Derived.Deep.DeepCutAuto
namespace Go.Proofs.Ytklfijhlibpmaaa
open Go.RowKit
set_option linter.unusedVariables false

theorem below_of_row {w w1 w2 : World} {B base : Nat} {e : TypeId} {size : Nat} {v : Value} {k : Nat} {xs : List Value} (h : Below B w w1) (hr : w1.ownsRow base e size v k xs) (hB : B ≤ base) (hg : w1.grownBy w2 v.ownBlock) (hs : B ≤ w1.heap.size) : Below B w w2 :=
  h.grown hg hs (fun j ej => Nat.le_trans hB (hr.lt j ej).1)

theorem src_one (w : World) (o : Obj) (t : TypeId) (x : Og) (cs : Array Value) (h : cs = (ogCells [x]).toArray) : Src ((w.alloc o).alloc (.cells cs t)) 4 (some ⟨w.heap.size + 1, 0, none⟩) 1 (ogCells [x]) := by
  have := (OgsR.lit (w.alloc o) t [x] cs h).toSrc
  rwa [World.size_alloc] at this
set_option maxRecDepth 100000 in
set_option maxHeartbeats 8000000 in
theorem normal_any (A : Option Addr) (c : Nat) (l : List Og) (w : World) (hl : OgsR w w.heap.size A l) (hb : OgBs l) (hm : l.length ≤ 1000000) :
    Calls Try.prog 10 #[.slice A l.length c] w (OgE w (ogN l)) := by
  obtain ⟨i0, hi, hz0, hz1, hz2⟩ := info_parts info_og
  have HL := Lib.hid hl
  have HOB := Lib.hid hb
  clear hl hb
  go_enter Try.func10, Try.ntmps10
  go_wp2_with fail
  go_loopg [3, 5, 13] l.length (fun g s3 s5 i wr => ∃ k : Nat, k + g = l.length ∧ i = .int .i64 k ∧ wr.ownsRow w.heap.size 27 4 s3 (ogLive (l.take k)).length (ogCells (ogLive (l.take k))) ∧ Below w.heap.size w wr)
  case atStart => exact ⟨0, by omega, rfl, World.ownsRow_nil _ _ _ _, Below.refl _ _⟩
  case round =>
    obtain ⟨k, hkg, rfl, hrow, hbw⟩ := hrel
    have HR := Lib.hid hrow
    have HB := Lib.hid hbw
    have hsz := hbw.size
    have hlen : (ogLive (l.take k)).length ≤ l.length := Nat.le_trans (ogLive_length _) (by simp; omega)
    clear hrow hbw
    cases gk with
    | zero =>
      obtain rfl : k = l.length := by omega
      clear hkg
      rw [List.take_length] at HR hlen
      obtain ⟨Av, cv, rfl, _⟩ := ownsRow_ogs HR.out
      have HS := Lib.hid (sortf_own w.heap.size _ (ogLive l) wr HR.out (by omega))
      clear HR
      go_wp2_with (go_at_call 26; refine HS.out.mono ?_; rintro e w3 ⟨rfl, ts, hp, hs, hown, hg⟩; have HB3 := Lib.hid (HB.out.grown hg hsz (fun j ej => (hown.lt j ej).1)); have HP := Lib.hid (And.intro hp hs); have HOWN := Lib.hid hown; clear hp hs hown hg)
      clear HS HB
      have htl : ts.length = (ogLive l).length := HP.out.1.length_eq
      have HTB : Hid (OgBs ts) := fun o ho => HOB.out o (ogLive_mem (HP.out.1.mem_iff.1 ho)).1
      have HTO := Lib.hid (ogTo_norm HP.out.1 HP.out.2)
      obtain ⟨At, ct, hv, hts⟩ := ownsRow_ogs HOWN.out
      have hsz3 := HB3.out.size
      rw [← htl] at hlen hv ⊢
      clear htl
      injection hv with hv1 hv2 hv3
      subst hv1 hv3
      have HTS := Lib.hid hts
      clear hts HOWN HP hv2
      go_loopg [7, 9, 10, 32] ts.length (fun g s7 s9 s10 i wr => ∃ k : Nat, k + g = ts.length ∧ i = .int .i64 k ∧ wr.ownsRow w3.heap.size 27 4 s7 (ogTo ts k).length (ogCells (ogTo ts k)) ∧ Below w3.heap.size w3 wr)
      case atStart => exact ⟨0, by omega, rfl, World.ownsRow_nil _ _ _ _, Below.refl _ _⟩
      case round =>
        clear hsz
        obtain ⟨k, hkg, rfl, hrow, hbw⟩ := hrel
        have HR := Lib.hid hrow
        have HB := Lib.hid hbw
        have hsz := hbw.size
        have hal := ogTo_length ts k (by omega)
        have hab := ogTo_b HTB.out k (by omega)
        clear hrow hbw
        cases gk with
        | zero =>
          obtain rfl : k = ts.length := by omega
          clear hkg
          rw [HTO.out] at HR
          go_wp2_with fail
          go_ret
          exact ⟨_, rfl, ownsRow_base HR.out hsz3, HB3.out.trans (HB.out.mono hsz3)⟩
        | succ g =>
          have hk : k < ts.length := by omega
          have HG := Lib.hid hkg
          clear hkg
          obtain ⟨b, off, hAt, hbl, hc⟩ := HTS.out (by omega)
          obtain ⟨e0, e1, e2, e3⟩ := hc k hk
          have f0 := (HB.out.cell (p := ⟨b, off + k * 4, none⟩) hbl).trans e0
          have f1 := (HB.out.cell (p := ⟨b, off + k * 4 + 1, none⟩) hbl).trans e1
          have f2 := (HB.out.cell (p := ⟨b, off + k * 4 + 2, none⟩) hbl).trans e2
          have f3 := (HB.out.cell (p := ⟨b, off + k * 4 + 3, none⟩) hbl).trans e3
          clear e0 e1 e2 e3 hc
          have hst := ogTo_succ ts k hk
          have hob := HTB.out.at_ k
          obtain ⟨o, hgl⟩ : ∃ o, ts.getD k (0, 0, 0, 0) = o := ⟨_, rfl⟩
          rw [hgl] at f0 f1 f2 f3 hst hob
          clear hgl
          obtain ⟨ok, ox, of', ot⟩ := o
          simp only at f0 f1 f2 f3
          obtain ⟨acc, hacc⟩ : ∃ acc, ogTo ts k = acc := ⟨_, rfl⟩
          rw [hacc] at HR hal hab hst
          clear hacc
          subst hAt
          -- the box
          have HB1 := Lib.hid (HB.out.alloc hsz (.cells #[.int .u8 ok, .int .i64 ox, .int .i64 of', .int .i64 ot] 27))
          have HR1 := Lib.hid (HR.out.alloc (.cells #[.int .u8 ok, .int .i64 ox, .int .i64 of', .int .i64 ot] 27))
          have b0 : (wr.alloc (.cells #[.int .u8 ok, .int .i64 ox, .int .i64 of', .int .i64 ot] 27)).cell? ⟨wr.heap.size, 0, none⟩ = some (.int .u8 ok) := by simp
          have b1 : (wr.alloc (.cells #[.int .u8 ok, .int .i64 ox, .int .i64 of', .int .i64 ot] 27)).cell? ⟨wr.heap.size, 1, none⟩ = some (.int .i64 ox) := by simp
          have b2 : (wr.alloc (.cells #[.int .u8 ok, .int .i64 ox, .int .i64 of', .int .i64 ot] 27)).cell? ⟨wr.heap.size, 2, none⟩ = some (.int .i64 of') := by simp
          have b3 : (wr.alloc (.cells #[.int .u8 ok, .int .i64 ox, .int .i64 of', .int .i64 ot] 27)).cell? ⟨wr.heap.size, 3, none⟩ = some (.int .i64 ot) := by simp
          have hbx : wr.heap.size < (wr.alloc (.cells #[.int .u8 ok, .int .i64 ox, .int .i64 of', .int .i64 ot] 27)).heap.size := by simp
          have HBB := Lib.hid (And.intro b0 (And.intro b1 (And.intro b2 b3)))
          have HBX := Lib.hid hbx
          clear b0 b1 b2 b3 hbx
          by_cases hem : acc = []
          · subst hem
            obtain ⟨Av, cv, rfl, _⟩ := ownsRow_ogs HR.out
            have hst2 : ogTo ts (k + 1) = [] ++ [(ok, ox, of', ot)] := by rw [hst]; simp [ogStep]
            have HST := Lib.hid hst2
            clear hst hst2 HR
            go_wp2_with fail
            simp only [List.length_nil] at HR1 ⊢
            generalize wr.alloc (.cells #[.int .u8 ok, .int .i64 ox, .int .i64 of', .int .i64 ot] 27) = wb at *
            generalize wr.heap.size = bx at *
            refine region_calls (w0 := wb) (fun jq => match jq with | 0 => .slice Av 0 cv | 1 => .int .i64 0 | 2 => .bool false | 3 => .bool false | 4 => undef | 5 => undef | 6 => undef | 7 => undef | 8 => undef | 9 => undef | 10 => undef | 11 => undef | 12 => .bool false | _ => undef) (by kernel_rfl) (by kernel_rfl) ?_ ?_
            · intro iq oq ho aq W hI hdep hrest hgd
              have r7 : aq.eval (.tmp 7) = .slice Av 0 cv := hrest 7 (apart_of (by kernel_rfl))
              have hc : ∀ v, aq.eval (.const v) = v := fun _ => rfl
              have hfn : ∀ f, aq.eval (.func f) = .func (.func f) #[] #[] := fun _ => rfl
              clear hrest
              rcases iq with _ | _ | _ | _ | _ | _ | _ | _ | _ | _ | _ | _ | _ | iq
              · injection ho with ho
                subst ho
                clear hdep hgd
                refine ⟨fun _ => .inl ?_, fun hw => (by simp [Region.wanted] at hw)⟩
                clear hI
                generalize aq.eval = ρ at *
                simp [go_sem, r7]
              · injection ho with ho
                subst ho
                have d0 : aq.eval (.tmp 36) = .slice Av 0 cv := hdep ⟨0, .data⟩ (by simp) rfl _ _ rfl rfl
                clear hdep hgd
                refine ⟨fun _ => .inl ?_, fun hw => (by simp [Region.wanted] at hw)⟩
                clear hI
                generalize aq.eval = ρ at *
                simp [go_sem, d0]
              · injection ho with ho
                subst ho
                have d1 : aq.eval (.tmp 37) = .int .i64 0 := hdep ⟨1, .data⟩ (by simp) rfl _ _ rfl rfl
                clear hdep hgd
                refine ⟨fun _ => .inl ?_, fun hw => (by simp [Region.wanted] at hw)⟩
                clear hI
                generalize aq.eval = ρ at *
                simp [go_sem, d1, hc]
              · injection ho with ho
                subst ho
                have d2 : aq.eval (.tmp 38) = .bool false := hdep ⟨2, .data⟩ (by simp) rfl _ _ rfl rfl
                clear hdep hgd
                refine ⟨fun _ => .inl ?_, fun hw => (by simp [Region.wanted] at hw)⟩
                clear hI
                generalize aq.eval = ρ at *
                simp [go_sem, d2]
              · injection ho with ho
                subst ho
                have h8 : aq.tmps.getD 39 undef = .bool false := hdep ⟨3, .guard⟩ (by simp) rfl _ _ rfl rfl
                have hwd := hgd 3 true rfl _ _ rfl rfl false h8
                exact ⟨fun hw => (by rw [hwd] at hw; cases hw), fun _ => rfl⟩
              · injection ho with ho
                subst ho
                have h8 : aq.tmps.getD 39 undef = .bool false := hdep ⟨3, .guard⟩ (by simp) rfl _ _ rfl rfl
                have hwd := hgd 3 true rfl _ _ rfl rfl false h8
                exact ⟨fun hw => (by rw [hwd] at hw; cases hw), fun _ => rfl⟩
              · injection ho with ho
                subst ho
                have h8 : aq.tmps.getD 39 undef = .bool false := hdep ⟨3, .guard⟩ (by simp) rfl _ _ rfl rfl
                have hwd := hgd 3 true rfl _ _ rfl rfl false h8
                exact ⟨fun hw => (by rw [hwd] at hw; cases hw), fun _ => rfl⟩
              · injection ho with ho
                subst ho
                have h8 : aq.tmps.getD 39 undef = .bool false := hdep ⟨3, .guard⟩ (by simp) rfl _ _ rfl rfl
                have hwd := hgd 3 true rfl _ _ rfl rfl false h8
                exact ⟨fun hw => (by rw [hwd] at hw; cases hw), fun _ => rfl⟩
              · injection ho with ho
                subst ho
                have h8 : aq.tmps.getD 39 undef = .bool false := hdep ⟨3, .guard⟩ (by simp) rfl _ _ rfl rfl
                have hwd := hgd 3 true rfl _ _ rfl rfl false h8
                exact ⟨fun hw => (by rw [hwd] at hw; cases hw), fun _ => rfl⟩
              · injection ho with ho
                subst ho
                have h8 : aq.tmps.getD 39 undef = .bool false := hdep ⟨3, .guard⟩ (by simp) rfl _ _ rfl rfl
                have hwd := hgd 3 true rfl _ _ rfl rfl false h8
                exact ⟨fun hw => (by rw [hwd] at hw; cases hw), fun _ => rfl⟩
              · injection ho with ho
                subst ho
                have h8 : aq.tmps.getD 39 undef = .bool false := hdep ⟨3, .guard⟩ (by simp) rfl _ _ rfl rfl
                have hwd := hgd 3 true rfl _ _ rfl rfl false h8
                exact ⟨fun hw => (by rw [hwd] at hw; cases hw), fun _ => rfl⟩
              · injection ho with ho
                subst ho
                have h8 : aq.tmps.getD 39 undef = .bool false := hdep ⟨3, .guard⟩ (by simp) rfl _ _ rfl rfl
                have hwd := hgd 3 true rfl _ _ rfl rfl false h8
                exact ⟨fun hw => (by rw [hwd] at hw; cases hw), fun _ => rfl⟩
              · injection ho with ho
                subst ho
                have d3 : aq.eval (.tmp 39) = .bool false := hdep ⟨3, .data⟩ (by simp) rfl _ _ rfl rfl
                clear hdep hgd
                refine ⟨fun _ => .inl ?_, fun hw => (by simp [Region.wanted] at hw)⟩
                clear hI
                generalize aq.eval = ρ at *
                simp [go_sem, d3, hc]
              · simp at ho
            intro wx hb
            simp only [putAll, Act.put, List.setIfInBounds_toArray, List.set_cons_zero, List.set_cons_succ, Nat.reduceAdd]
            have hb' := hb.mono (B' := w3.heap.size) (by have := HB1.out.size; omega)
            have HB2 := Lib.hid (HB1.out.trans hb')
            obtain ⟨b0, b1, b2, b3⟩ := HBB.out
            have hbx := HBX.out
            have c0 := (hb.cell (p := ⟨bx, 0, none⟩) hbx).trans b0
            have c1 := (hb.cell (p := ⟨bx, 1, none⟩) hbx).trans b1
            have c2 := (hb.cell (p := ⟨bx, 2, none⟩) hbx).trans b2
            have c3 := (hb.cell (p := ⟨bx, 3, none⟩) hbx).trans b3
            have HR2 := Lib.hid (ownsRow_below HR1.out hb)
            have hsx := HB2.out.size
            clear hb b0 b1 b2 b3 hb' HBB
            go_wp2_with (at_builtin; refine wpList_append_any _ rfl (.tmp 64) (.tmp 66) _ rfl w3.heap.size 27 i0 _ 4 32 Try.underlying22 hi hz0 hz1 hz2 rfl (by omega) (.slice Av 0 cv) 0 [] rfl (HR2.out.alloc _) (some ⟨wx.heap.size, 0, none⟩) 1 1 (ogCells [(ok, ox, of', ot)]) rfl (OgsR.lit wx 27 [(ok, ox, of', ot)] _ rfl).toSrc (one_ogs _) (by simp only [maxLen]; omega) (by omega) (by simp; omega) ?_; intro v1 w1 hown1 hg1 _)
            have hb3 := below_of_row (HB2.out.alloc hsx (.cells #[.int .u8 ok, .int .i64 ox, .int .i64 of', .int .i64 ot] 27)) (HR2.out.alloc _) (Nat.le_refl _) hg1 (by simp; omega)
            have HB4 := Lib.hid hb3
            have HO1 := Lib.hid hown1
            clear hb3 hown1 hg1
            go_roundg g
            case measure => omega
            case rel => exact ⟨k + 1, by have := HG.out; omega, by go_num, by rw [HST.out]; simpa [ogCells_append] using HO1.out, HB4.out⟩
          · have hpos : 0 < acc.length := List.length_pos_iff.2 hem
            rcases HR.out.2 with ⟨rfl, h0⟩ | ⟨gr, cap, cur, rfl, hgb, hgh, r1, r2, r3, r4⟩
            · omega
            have hcell : ∀ j, j < acc.length * 4 → (wr.alloc (.cells #[.int .u8 ok, .int .i64 ox, .int .i64 of', .int .i64 ot] 27)).cell? ⟨gr, j, none⟩ = (ogCells acc)[j]? := fun j hj => HR1.out.cellAt j hj
            have hgr : gr < (wr.alloc (.cells #[.int .u8 ok, .int .i64 ox, .int .i64 of', .int .i64 ot] 27)).heap.size := by have := (Array.getElem?_eq_some_iff.1 hgh).1; simp; omega
            obtain ⟨n, hn⟩ : ∃ n, acc.length = n + 1 := ⟨acc.length - 1, by omega⟩
            obtain ⟨d0, d1, d2, d3⟩ := ogCells_at acc n (by omega)
            have c0 := (hcell (n * 4) (by omega)).trans d0
            have c1 := (hcell (n * 4 + 1) (by omega)).trans d1
            have c2 := (hcell (n * 4 + 2) (by omega)).trans d2
            have c3 := (hcell (n * 4 + 3) (by omega)).trans d3
            have hset := ogCells_set acc n
            have hstep : ogStep acc (ok, ox, of', ot) = if ogJoin (acc.getD n (0, 0, 0, 0)) (ok, ox, of', ot) then acc.set n (ogMax (acc.getD n (0, 0, 0, 0)) (ok, ox, of', ot)) else acc ++ [(ok, ox, of', ot)] := by
              unfold ogStep
              rw [show acc.length - 1 = n by omega]
              by_cases h : ogJoin (acc.getD n (0, 0, 0, 0)) (ok, ox, of', ot)
              · rw [if_pos ⟨hpos, h⟩, if_pos h]
              · rw [if_neg (fun h' => h h'.2), if_neg h]
            have hlb := hab.at_ n
            obtain ⟨la, hla⟩ : ∃ la, acc.getD n (0, 0, 0, 0) = la := ⟨_, rfl⟩
            rw [hla] at c0 c1 c2 c3 hset hstep hlb
            obtain ⟨lk, lx, lf, lt⟩ := la
            simp only at c0 c1 c2 c3 hset
            have hj0 := fun W => joins_any (lk, lx, lf, lt) (ok, ox, of', ot) hlb hob W
            rw [hstep] at hst
            have hnm : n < acc.length := by omega
            have hmp : 0 < acc.length := by omega
            have hsub : IntKind.i64.wrap ((acc.length : Int) - 1) = (n : Int) := by rw [IntWalk.i64_in _ (by omega)]; omega
            have HSET := Lib.hid (fun m => hset m hnm)
            have hml : acc.length ≤ 1000000 := by omega
            have hn1 : acc.length = n + 1 := hn
            clear hcell d0 d1 d2 d3 hset hstep hla hn hgh r1 r2 r3 r4 HR hem hpos
            by_cases hjn : ogJoin (lk, lx, lf, lt) (ok, ox, of', ot)
            · rw [if_pos hjn] at hst
              rw [decide_eq_true hjn] at hj0
              have hj : ∀ W, Calls Try.prog 27 #[.agg #[.int .u8 lk, .int .i64 lx, .int .i64 lf, .int .i64 lt], .agg #[.int .u8 ok, .int .i64 ox, .int .i64 of', .int .i64 ot]] W fun e w' => e = .returned (.bool true) ∧ Below W.heap.size W w' := fun W => (hj0 W).mono fun e w' ⟨he, hw⟩ => ⟨he, by rw [hw]; exact twoOg_below _ _ _⟩
              have HST := Lib.hid hst
              clear hj0 hst hjn
              go_wp2_with fail
              generalize wr.alloc (.cells #[.int .u8 ok, .int .i64 ox, .int .i64 of', .int .i64 ot] 27) = wb at *
              generalize wr.heap.size = bx at *
              generalize hmm : acc.length = m at *
              have HMM := Lib.hid hmm
              clear hmm
              obtain ⟨b0, b1, b2, b3⟩ := HBB.out
              have hbx := HBX.out
              refine region_calls (w0 := wb) (fun jq => match jq with | 0 => .slice (some ⟨gr, 0, none⟩) m cap | 1 => .int .i64 (m : Int) | 2 => .bool true | 3 => .bool true | 4 => .slice (some ⟨gr, 0, none⟩) m cap | 5 => .slice (some ⟨gr, 0, none⟩) m cap | 6 => .int .i64 (m : Int) | 7 => .int .i64 (n : Int) | 8 => .pointer (some ⟨gr, n * 4, none⟩) | 9 => .agg #[.int .u8 lk, .int .i64 lx, .int .i64 lf, .int .i64 lt] | 10 => .agg #[.int .u8 ok, .int .i64 ox, .int .i64 of', .int .i64 ot] | 11 => .bool true | 12 => .bool true | _ => undef) (by kernel_rfl) (by kernel_rfl) ?_ ?_
              · intro iq oq ho aq W hI hdep hrest hgd
                have r7 : aq.eval (.tmp 7) = .slice (some ⟨gr, 0, none⟩) m cap := hrest 7 (apart_of (by kernel_rfl))
                have r9 : aq.eval (.tmp 9) = .pointer (some ⟨bx, 0, none⟩) := hrest 9 (apart_of (by kernel_rfl))
                have hc : ∀ v, aq.eval (.const v) = v := fun _ => rfl
                have hfn : ∀ f, aq.eval (.func f) = .func (.func f) #[] #[] := fun _ => rfl
                clear hrest
                rcases iq with _ | _ | _ | _ | _ | _ | _ | _ | _ | _ | _ | _ | _ | iq
                · injection ho with ho
                  subst ho
                  clear hdep hgd
                  refine ⟨fun _ => .inl ?_, fun hw => (by simp [Region.wanted] at hw)⟩
                  clear hI
                  generalize aq.eval = ρ at *
                  simp [go_sem, r7]
                · injection ho with ho
                  subst ho
                  have d0 : aq.eval (.tmp 36) = .slice (some ⟨gr, 0, none⟩) m cap := hdep ⟨0, .data⟩ (by simp) rfl _ _ rfl rfl
                  clear hdep hgd
                  refine ⟨fun _ => .inl ?_, fun hw => (by simp [Region.wanted] at hw)⟩
                  clear hI
                  generalize aq.eval = ρ at *
                  simp [go_sem, d0]
                · injection ho with ho
                  subst ho
                  have d1 : aq.eval (.tmp 37) = .int .i64 (m : Int) := hdep ⟨1, .data⟩ (by simp) rfl _ _ rfl rfl
                  clear hdep hgd
                  refine ⟨fun _ => .inl ?_, fun hw => (by simp [Region.wanted] at hw)⟩
                  clear hI
                  generalize aq.eval = ρ at *
                  simp [go_sem, d1, hc, hmp]
                · injection ho with ho
                  subst ho
                  have d2 : aq.eval (.tmp 38) = .bool true := hdep ⟨2, .data⟩ (by simp) rfl _ _ rfl rfl
                  clear hdep hgd
                  refine ⟨fun _ => .inl ?_, fun hw => (by simp [Region.wanted] at hw)⟩
                  clear hI
                  generalize aq.eval = ρ at *
                  simp [go_sem, d2]
                · injection ho with ho
                  subst ho
                  have h8 : aq.tmps.getD 39 undef = .bool true := hdep ⟨3, .guard⟩ (by simp) rfl _ _ rfl rfl
                  have hwd := hgd 3 true rfl _ _ rfl rfl true h8
                  clear hdep hgd
                  refine ⟨fun _ => .inl ?_, fun hw => (by rw [hwd] at hw; cases hw)⟩
                  clear h8 hwd
                  clear hI
                  generalize aq.eval = ρ at *
                  simp [go_sem, r7]
                · injection ho with ho
                  subst ho
                  have h8 : aq.tmps.getD 39 undef = .bool true := hdep ⟨3, .guard⟩ (by simp) rfl _ _ rfl rfl
                  have hwd := hgd 3 true rfl _ _ rfl rfl true h8
                  clear hdep hgd
                  refine ⟨fun _ => .inl ?_, fun hw => (by rw [hwd] at hw; cases hw)⟩
                  clear h8 hwd
                  clear hI
                  generalize aq.eval = ρ at *
                  simp [go_sem, r7]
                · injection ho with ho
                  subst ho
                  have d5 : aq.eval (.tmp 41) = .slice (some ⟨gr, 0, none⟩) m cap := hdep ⟨5, .data⟩ (by simp) rfl _ _ rfl rfl
                  have h8 : aq.tmps.getD 39 undef = .bool true := hdep ⟨3, .guard⟩ (by simp) rfl _ _ rfl rfl
                  have hwd := hgd 3 true rfl _ _ rfl rfl true h8
                  clear hdep hgd
                  refine ⟨fun _ => .inl ?_, fun hw => (by rw [hwd] at hw; cases hw)⟩
                  clear h8 hwd
                  clear hI
                  generalize aq.eval = ρ at *
                  simp [go_sem, d5]
                · injection ho with ho
                  subst ho
                  have d6 : aq.eval (.tmp 42) = .int .i64 (m : Int) := hdep ⟨6, .data⟩ (by simp) rfl _ _ rfl rfl
                  have h8 : aq.tmps.getD 39 undef = .bool true := hdep ⟨3, .guard⟩ (by simp) rfl _ _ rfl rfl
                  have hwd := hgd 3 true rfl _ _ rfl rfl true h8
                  clear hdep hgd
                  refine ⟨fun _ => .inl ?_, fun hw => (by rw [hwd] at hw; cases hw)⟩
                  clear h8 hwd
                  clear hI
                  generalize aq.eval = ρ at *
                  simp [go_sem, d6, hc, hsub]
                · injection ho with ho
                  subst ho
                  have d4 : aq.eval (.tmp 40) = .slice (some ⟨gr, 0, none⟩) m cap := hdep ⟨4, .data⟩ (by simp) rfl _ _ rfl rfl
                  have d7 : aq.eval (.tmp 43) = .int .i64 (n : Int) := hdep ⟨7, .data⟩ (by simp) rfl _ _ rfl rfl
                  have h8 : aq.tmps.getD 39 undef = .bool true := hdep ⟨3, .guard⟩ (by simp) rfl _ _ rfl rfl
                  have hwd := hgd 3 true rfl _ _ rfl rfl true h8
                  clear hdep hgd
                  refine ⟨fun _ => .inl ?_, fun hw => (by rw [hwd] at hw; cases hw)⟩
                  clear h8 hwd
                  clear hI
                  generalize aq.eval = ρ at *
                  simp [go_sem, d4, d7, hnm]
                · injection ho with ho
                  subst ho
                  have d8 : aq.eval (.tmp 44) = .pointer (some ⟨gr, n * 4, none⟩) := hdep ⟨8, .data⟩ (by simp) rfl _ _ rfl rfl
                  have h8 : aq.tmps.getD 39 undef = .bool true := hdep ⟨3, .guard⟩ (by simp) rfl _ _ rfl rfl
                  have hwd := hgd 3 true rfl _ _ rfl rfl true h8
                  clear hdep hgd
                  have c0' : W.cell? ⟨gr, n * 4, none⟩ = _ := (hI.cell (p := ⟨gr, n * 4, none⟩) hgr).trans c0
                  have c1' : W.cell? ⟨gr, n * 4 + 1, none⟩ = _ := (hI.cell (p := ⟨gr, n * 4 + 1, none⟩) hgr).trans c1
                  have c2' : W.cell? ⟨gr, n * 4 + 2, none⟩ = _ := (hI.cell (p := ⟨gr, n * 4 + 2, none⟩) hgr).trans c2
                  have c3' : W.cell? ⟨gr, n * 4 + 3, none⟩ = _ := (hI.cell (p := ⟨gr, n * 4 + 3, none⟩) hgr).trans c3
                  refine ⟨fun _ => .inl ?_, fun hw => (by rw [hwd] at hw; cases hw)⟩
                  clear h8 hwd
                  clear hI
                  generalize aq.eval = ρ at *
                  simp [go_sem, d8, c0', c1', c2', c3']
                · injection ho with ho
                  subst ho
                  have h8 : aq.tmps.getD 39 undef = .bool true := hdep ⟨3, .guard⟩ (by simp) rfl _ _ rfl rfl
                  have hwd := hgd 3 true rfl _ _ rfl rfl true h8
                  clear hdep hgd
                  have b0' : W.cell? ⟨bx, 0, none⟩ = _ := (hI.cell (p := ⟨bx, 0, none⟩) hbx).trans b0
                  have b1' : W.cell? ⟨bx, 1, none⟩ = _ := (hI.cell (p := ⟨bx, 1, none⟩) hbx).trans b1
                  have b2' : W.cell? ⟨bx, 2, none⟩ = _ := (hI.cell (p := ⟨bx, 2, none⟩) hbx).trans b2
                  have b3' : W.cell? ⟨bx, 3, none⟩ = _ := (hI.cell (p := ⟨bx, 3, none⟩) hbx).trans b3
                  refine ⟨fun _ => .inl ?_, fun hw => (by rw [hwd] at hw; cases hw)⟩
                  clear h8 hwd
                  clear hI
                  generalize aq.eval = ρ at *
                  simp [go_sem, r9, b0', b1', b2', b3']
                · injection ho with ho
                  subst ho
                  have d9 : aq.eval (.tmp 45) = .agg #[.int .u8 lk, .int .i64 lx, .int .i64 lf, .int .i64 lt] := hdep ⟨9, .data⟩ (by simp) rfl _ _ rfl rfl
                  have d10 : aq.eval (.tmp 46) = .agg #[.int .u8 ok, .int .i64 ox, .int .i64 of', .int .i64 ot] := hdep ⟨10, .data⟩ (by simp) rfl _ _ rfl rfl
                  have h8 : aq.tmps.getD 39 undef = .bool true := hdep ⟨3, .guard⟩ (by simp) rfl _ _ rfl rfl
                  have hwd := hgd 3 true rfl _ _ rfl rfl true h8
                  clear hdep hgd
                  refine ⟨fun _ => .inr ⟨27, #[.agg #[.int .u8 lk, .int .i64 lx, .int .i64 lf, .int .i64 lt], .agg #[.int .u8 ok, .int .i64 ox, .int .i64 of', .int .i64 ot]], ?_, hj W⟩, fun hw => (by rw [hwd] at hw; cases hw)⟩
                  clear h8 hwd
                  clear hI
                  generalize aq.eval = ρ at *
                  simp [go_sem, d9, d10, hfn]
                · injection ho with ho
                  subst ho
                  have d3 : aq.eval (.tmp 39) = .bool true := hdep ⟨3, .data⟩ (by simp) rfl _ _ rfl rfl
                  have d11 : aq.eval (.tmp 47) = .bool true := hdep ⟨11, .data⟩ (by simp) rfl _ _ rfl rfl
                  clear hdep hgd
                  refine ⟨fun _ => .inl ?_, fun hw => (by simp [Region.wanted] at hw)⟩
                  clear hI
                  generalize aq.eval = ρ at *
                  simp [go_sem, d3, d11]
                · simp at ho
              intro wx hb
              simp only [putAll, Act.put, List.setIfInBounds_toArray, List.set_cons_zero, List.set_cons_succ, Nat.reduceAdd]
              clear hj
              have HR2 := Lib.hid (ownsRow_below HR1.out hb)
              have HB2 := Lib.hid (HB1.out.trans (hb.mono (B' := w3.heap.size) HB1.out.size))
              have c3' := (hb.cell (p := ⟨gr, n * 4 + 3, none⟩) hgr).trans c3
              have b3' := (hb.cell (p := ⟨bx, 3, none⟩) hbx).trans b3
              clear c0 c1 c2 c3 b0 b1 b2 b3 hb HBB
              have c3 := c3'
              have b3 := b3'
              clear c3' b3'
              have hfz : wx.frozen? ⟨gr, n * 4 + 3, none⟩ = false := HR2.out.frozenAt _
              obtain ⟨mx, hmx0⟩ : ∃ mx, max lt ot = mx := ⟨_, rfl⟩
              go_wp2_with fail
              refine region_store2 (w0 := wx) (w1 := wx.drew.setCell ⟨gr, n * 4 + 3, none⟩ (.int .i64 mx)) 10 (fun jq => match jq with | 0 => .pointer (some ⟨gr, n * 4, none⟩) | 1 => .pointer (some ⟨gr, n * 4, none⟩) | 2 => .pointer (some ⟨gr, n * 4, none⟩) | 3 => .pointer (some ⟨gr, n * 4 + 3, none⟩) | 4 => .int .i64 lt | 5 => .pointer (some ⟨bx, 3, none⟩) | 6 => .int .i64 ot | 7 => .int .i64 mx | 8 => .pointer (some ⟨gr, n * 4, none⟩) | 9 => .pointer (some ⟨gr, n * 4 + 3, none⟩) | 10 => undef | _ => undef) (by kernel_rfl) (by kernel_rfl) (by kernel_rfl) ?_ rfl ?_
              · intro iq oq ho aq hdep hrest hgd
                have r10 : aq.eval (.tmp 10) = .pointer (some ⟨gr, n * 4, none⟩) := hrest 10 (apart_of (by kernel_rfl))
                have r9 : aq.eval (.tmp 9) = .pointer (some ⟨bx, 0, none⟩) := hrest 9 (apart_of (by kernel_rfl))
                have hc : ∀ v, aq.eval (.const v) = v := fun _ => rfl
                have hfn : ∀ f, aq.eval (.func f) = .func (.func f) #[] #[] := fun _ => rfl
                clear hrest
                rcases iq with _ | _ | _ | _ | _ | _ | _ | _ | _ | _ | _ | iq
                · injection ho with ho
                  subst ho
                  clear hdep hgd
                  refine ⟨fun _ => ⟨fun _ => ?_, fun h => absurd h (by decide)⟩, fun hw => (by simp [Region.wanted] at hw)⟩
                  generalize aq.eval = ρ at *
                  simp [go_sem, r10]
                · injection ho with ho
                  subst ho
                  clear hdep hgd
                  refine ⟨fun _ => ⟨fun _ => ?_, fun h => absurd h (by decide)⟩, fun hw => (by simp [Region.wanted] at hw)⟩
                  generalize aq.eval = ρ at *
                  simp [go_sem, r10]
                · injection ho with ho
                  subst ho
                  have d1 : aq.eval (.tmp 55) = .pointer (some ⟨gr, n * 4, none⟩) := hdep ⟨1, .data⟩ (by simp) rfl _ _ rfl rfl
                  clear hdep hgd
                  refine ⟨fun _ => ⟨fun _ => ?_, fun h => absurd h (by decide)⟩, fun hw => (by simp [Region.wanted] at hw)⟩
                  generalize aq.eval = ρ at *
                  simp [go_sem, d1]
                · injection ho with ho
                  subst ho
                  have d2 : aq.eval (.tmp 56) = .pointer (some ⟨gr, n * 4, none⟩) := hdep ⟨2, .data⟩ (by simp) rfl _ _ rfl rfl
                  clear hdep hgd
                  refine ⟨fun _ => ⟨fun _ => ?_, fun h => absurd h (by decide)⟩, fun hw => (by simp [Region.wanted] at hw)⟩
                  generalize aq.eval = ρ at *
                  simp [go_sem, d2]
                · injection ho with ho
                  subst ho
                  have d3 : aq.eval (.tmp 57) = .pointer (some ⟨gr, n * 4 + 3, none⟩) := hdep ⟨3, .data⟩ (by simp) rfl _ _ rfl rfl
                  clear hdep hgd
                  refine ⟨fun _ => ⟨fun _ => ?_, fun h => absurd h (by decide)⟩, fun hw => (by simp [Region.wanted] at hw)⟩
                  generalize aq.eval = ρ at *
                  simp [go_sem, d3, c3]
                · injection ho with ho
                  subst ho
                  clear hdep hgd
                  refine ⟨fun _ => ⟨fun _ => ?_, fun h => absurd h (by decide)⟩, fun hw => (by simp [Region.wanted] at hw)⟩
                  generalize aq.eval = ρ at *
                  simp [go_sem, r9]
                · injection ho with ho
                  subst ho
                  have d5 : aq.eval (.tmp 59) = .pointer (some ⟨bx, 3, none⟩) := hdep ⟨5, .data⟩ (by simp) rfl _ _ rfl rfl
                  clear hdep hgd
                  refine ⟨fun _ => ⟨fun _ => ?_, fun h => absurd h (by decide)⟩, fun hw => (by simp [Region.wanted] at hw)⟩
                  generalize aq.eval = ρ at *
                  simp [go_sem, d5, b3]
                · injection ho with ho
                  subst ho
                  have d4 : aq.eval (.tmp 58) = .int .i64 lt := hdep ⟨4, .data⟩ (by simp) rfl _ _ rfl rfl
                  have d6 : aq.eval (.tmp 60) = .int .i64 ot := hdep ⟨6, .data⟩ (by simp) rfl _ _ rfl rfl
                  clear hdep hgd
                  refine ⟨fun _ => ⟨fun _ => ?_, fun h => absurd h (by decide)⟩, fun hw => (by simp [Region.wanted] at hw)⟩
                  generalize aq.eval = ρ at *
                  simp [go_sem, d4, d6, hmx0]
                · injection ho with ho
                  subst ho
                  have d0 : aq.eval (.tmp 54) = .pointer (some ⟨gr, n * 4, none⟩) := hdep ⟨0, .data⟩ (by simp) rfl _ _ rfl rfl
                  clear hdep hgd
                  refine ⟨fun _ => ⟨fun _ => ?_, fun h => absurd h (by decide)⟩, fun hw => (by simp [Region.wanted] at hw)⟩
                  generalize aq.eval = ρ at *
                  simp [go_sem, d0]
                · injection ho with ho
                  subst ho
                  have d8 : aq.eval (.tmp 62) = .pointer (some ⟨gr, n * 4, none⟩) := hdep ⟨8, .data⟩ (by simp) rfl _ _ rfl rfl
                  clear hdep hgd
                  refine ⟨fun _ => ⟨fun _ => ?_, fun h => absurd h (by decide)⟩, fun hw => (by simp [Region.wanted] at hw)⟩
                  generalize aq.eval = ρ at *
                  simp [go_sem, d8]
                · injection ho with ho
                  subst ho
                  have d9 : aq.eval (.tmp 63) = .pointer (some ⟨gr, n * 4 + 3, none⟩) := hdep ⟨9, .data⟩ (by simp) rfl _ _ rfl rfl
                  have d7 : aq.eval (.tmp 61) = .int .i64 mx := hdep ⟨7, .data⟩ (by simp) rfl _ _ rfl rfl
                  clear hdep hgd
                  refine ⟨fun _ => ⟨fun h => absurd rfl h, fun _ => ?_⟩, fun hw => (by simp [Region.wanted] at hw)⟩
                  generalize aq.eval = ρ at *
                  simp [go_sem, d9, d7, c3, hfz]
                · simp at ho
              simp only [putAll, Act.put, List.setIfInBounds_toArray, List.set_cons_zero, List.set_cons_succ, Nat.reduceAdd]
              have HO3 := Lib.hid ((show wx.drew.ownsRow _ _ _ _ _ _ from HR2.out).stored (n * 4 + 3) (.int .i64 mx))
              have HB3' := Lib.hid ((show Below w3.heap.size w3 wx.drew from HB2.out.drew).setCell (p := ⟨gr, n * 4 + 3, none⟩) (by exact hgb) (.int .i64 mx))
              have HMX := Lib.hid hmx0
              clear hmx0 c3 b3 hfz
              generalize wx.drew.setCell ⟨gr, n * 4 + 3, none⟩ (.int .i64 mx) = wq at *
              go_wp2_with fail
              go_roundg g
              case measure => omega
              case rel =>
                refine ⟨k + 1, by have := HG.out; omega, by go_num, ?_, HB3'.out⟩
                have h1 := HO3.out
                rw [HSET.out mx] at h1
                rw [HST.out, List.length_set, HMM.out]
                have : ogMax (lk, lx, lf, lt) (ok, ox, of', ot) = (lk, lx, lf, mx) := by unfold ogMax; simp only; rw [HMX.out]
                rw [this]
                exact h1.1
            · rw [if_neg hjn] at hst
              rw [decide_eq_false hjn] at hj0
              have hj : ∀ W, Calls Try.prog 27 #[.agg #[.int .u8 lk, .int .i64 lx, .int .i64 lf, .int .i64 lt], .agg #[.int .u8 ok, .int .i64 ox, .int .i64 of', .int .i64 ot]] W fun e w' => e = .returned (.bool false) ∧ Below W.heap.size W w' := fun W => (hj0 W).mono fun e w' ⟨he, hw⟩ => ⟨he, by rw [hw]; exact twoOg_below _ _ _⟩
              have HST := Lib.hid hst
              clear hj0 hst hjn
              go_wp2_with fail
              generalize wr.alloc (.cells #[.int .u8 ok, .int .i64 ox, .int .i64 of', .int .i64 ot] 27) = wb at *
              generalize wr.heap.size = bx at *
              generalize hmm : acc.length = m at *
              have HMM := Lib.hid hmm
              clear hmm
              obtain ⟨b0, b1, b2, b3⟩ := HBB.out
              have hbx := HBX.out
              refine region_calls (w0 := wb) (fun jq => match jq with | 0 => .slice (some ⟨gr, 0, none⟩) m cap | 1 => .int .i64 (m : Int) | 2 => .bool true | 3 => .bool true | 4 => .slice (some ⟨gr, 0, none⟩) m cap | 5 => .slice (some ⟨gr, 0, none⟩) m cap | 6 => .int .i64 (m : Int) | 7 => .int .i64 (n : Int) | 8 => .pointer (some ⟨gr, n * 4, none⟩) | 9 => .agg #[.int .u8 lk, .int .i64 lx, .int .i64 lf, .int .i64 lt] | 10 => .agg #[.int .u8 ok, .int .i64 ox, .int .i64 of', .int .i64 ot] | 11 => .bool false | 12 => .bool false | _ => undef) (by kernel_rfl) (by kernel_rfl) ?_ ?_
              · intro iq oq ho aq W hI hdep hrest hgd
                have r7 : aq.eval (.tmp 7) = .slice (some ⟨gr, 0, none⟩) m cap := hrest 7 (apart_of (by kernel_rfl))
                have r9 : aq.eval (.tmp 9) = .pointer (some ⟨bx, 0, none⟩) := hrest 9 (apart_of (by kernel_rfl))
                have hc : ∀ v, aq.eval (.const v) = v := fun _ => rfl
                have hfn : ∀ f, aq.eval (.func f) = .func (.func f) #[] #[] := fun _ => rfl
                clear hrest
                rcases iq with _ | _ | _ | _ | _ | _ | _ | _ | _ | _ | _ | _ | _ | iq
                · injection ho with ho
                  subst ho
                  clear hdep hgd
                  refine ⟨fun _ => .inl ?_, fun hw => (by simp [Region.wanted] at hw)⟩
                  clear hI
                  generalize aq.eval = ρ at *
                  simp [go_sem, r7]
                · injection ho with ho
                  subst ho
                  have d0 : aq.eval (.tmp 36) = .slice (some ⟨gr, 0, none⟩) m cap := hdep ⟨0, .data⟩ (by simp) rfl _ _ rfl rfl
                  clear hdep hgd
                  refine ⟨fun _ => .inl ?_, fun hw => (by simp [Region.wanted] at hw)⟩
                  clear hI
                  generalize aq.eval = ρ at *
                  simp [go_sem, d0]
                · injection ho with ho
                  subst ho
                  have d1 : aq.eval (.tmp 37) = .int .i64 (m : Int) := hdep ⟨1, .data⟩ (by simp) rfl _ _ rfl rfl
                  clear hdep hgd
                  refine ⟨fun _ => .inl ?_, fun hw => (by simp [Region.wanted] at hw)⟩
                  clear hI
                  generalize aq.eval = ρ at *
                  simp [go_sem, d1, hc, hmp]
                · injection ho with ho
                  subst ho
                  have d2 : aq.eval (.tmp 38) = .bool true := hdep ⟨2, .data⟩ (by simp) rfl _ _ rfl rfl
                  clear hdep hgd
                  refine ⟨fun _ => .inl ?_, fun hw => (by simp [Region.wanted] at hw)⟩
                  clear hI
                  generalize aq.eval = ρ at *
                  simp [go_sem, d2]
                · injection ho with ho
                  subst ho
                  have h8 : aq.tmps.getD 39 undef = .bool true := hdep ⟨3, .guard⟩ (by simp) rfl _ _ rfl rfl
                  have hwd := hgd 3 true rfl _ _ rfl rfl true h8
                  clear hdep hgd
                  refine ⟨fun _ => .inl ?_, fun hw => (by rw [hwd] at hw; cases hw)⟩
                  clear h8 hwd
                  clear hI
                  generalize aq.eval = ρ at *
                  simp [go_sem, r7]
                · injection ho with ho
                  subst ho
                  have h8 : aq.tmps.getD 39 undef = .bool true := hdep ⟨3, .guard⟩ (by simp) rfl _ _ rfl rfl
                  have hwd := hgd 3 true rfl _ _ rfl rfl true h8
                  clear hdep hgd
                  refine ⟨fun _ => .inl ?_, fun hw => (by rw [hwd] at hw; cases hw)⟩
                  clear h8 hwd
                  clear hI
                  generalize aq.eval = ρ at *
                  simp [go_sem, r7]
                · injection ho with ho
                  subst ho
                  have d5 : aq.eval (.tmp 41) = .slice (some ⟨gr, 0, none⟩) m cap := hdep ⟨5, .data⟩ (by simp) rfl _ _ rfl rfl
                  have h8 : aq.tmps.getD 39 undef = .bool true := hdep ⟨3, .guard⟩ (by simp) rfl _ _ rfl rfl
                  have hwd := hgd 3 true rfl _ _ rfl rfl true h8
                  clear hdep hgd
                  refine ⟨fun _ => .inl ?_, fun hw => (by rw [hwd] at hw; cases hw)⟩
                  clear h8 hwd
                  clear hI
                  generalize aq.eval = ρ at *
                  simp [go_sem, d5]
                · injection ho with ho
                  subst ho
                  have d6 : aq.eval (.tmp 42) = .int .i64 (m : Int) := hdep ⟨6, .data⟩ (by simp) rfl _ _ rfl rfl
                  have h8 : aq.tmps.getD 39 undef = .bool true := hdep ⟨3, .guard⟩ (by simp) rfl _ _ rfl rfl
                  have hwd := hgd 3 true rfl _ _ rfl rfl true h8
                  clear hdep hgd
                  refine ⟨fun _ => .inl ?_, fun hw => (by rw [hwd] at hw; cases hw)⟩
                  clear h8 hwd
                  clear hI
                  generalize aq.eval = ρ at *
                  simp [go_sem, d6, hc, hsub]
                · injection ho with ho
                  subst ho
                  have d4 : aq.eval (.tmp 40) = .slice (some ⟨gr, 0, none⟩) m cap := hdep ⟨4, .data⟩ (by simp) rfl _ _ rfl rfl
                  have d7 : aq.eval (.tmp 43) = .int .i64 (n : Int) := hdep ⟨7, .data⟩ (by simp) rfl _ _ rfl rfl
                  have h8 : aq.tmps.getD 39 undef = .bool true := hdep ⟨3, .guard⟩ (by simp) rfl _ _ rfl rfl
                  have hwd := hgd 3 true rfl _ _ rfl rfl true h8
                  clear hdep hgd
                  refine ⟨fun _ => .inl ?_, fun hw => (by rw [hwd] at hw; cases hw)⟩
                  clear h8 hwd
                  clear hI
                  generalize aq.eval = ρ at *
                  simp [go_sem, d4, d7, hnm]
                · injection ho with ho
                  subst ho
                  have d8 : aq.eval (.tmp 44) = .pointer (some ⟨gr, n * 4, none⟩) := hdep ⟨8, .data⟩ (by simp) rfl _ _ rfl rfl
                  have h8 : aq.tmps.getD 39 undef = .bool true := hdep ⟨3, .guard⟩ (by simp) rfl _ _ rfl rfl
                  have hwd := hgd 3 true rfl _ _ rfl rfl true h8
                  clear hdep hgd
                  have c0' : W.cell? ⟨gr, n * 4, none⟩ = _ := (hI.cell (p := ⟨gr, n * 4, none⟩) hgr).trans c0
                  have c1' : W.cell? ⟨gr, n * 4 + 1, none⟩ = _ := (hI.cell (p := ⟨gr, n * 4 + 1, none⟩) hgr).trans c1
                  have c2' : W.cell? ⟨gr, n * 4 + 2, none⟩ = _ := (hI.cell (p := ⟨gr, n * 4 + 2, none⟩) hgr).trans c2
                  have c3' : W.cell? ⟨gr, n * 4 + 3, none⟩ = _ := (hI.cell (p := ⟨gr, n * 4 + 3, none⟩) hgr).trans c3
                  refine ⟨fun _ => .inl ?_, fun hw => (by rw [hwd] at hw; cases hw)⟩
                  clear h8 hwd
                  clear hI
                  generalize aq.eval = ρ at *
                  simp [go_sem, d8, c0', c1', c2', c3']
                · injection ho with ho
                  subst ho
                  have h8 : aq.tmps.getD 39 undef = .bool true := hdep ⟨3, .guard⟩ (by simp) rfl _ _ rfl rfl
                  have hwd := hgd 3 true rfl _ _ rfl rfl true h8
                  clear hdep hgd
                  have b0' : W.cell? ⟨bx, 0, none⟩ = _ := (hI.cell (p := ⟨bx, 0, none⟩) hbx).trans b0
                  have b1' : W.cell? ⟨bx, 1, none⟩ = _ := (hI.cell (p := ⟨bx, 1, none⟩) hbx).trans b1
                  have b2' : W.cell? ⟨bx, 2, none⟩ = _ := (hI.cell (p := ⟨bx, 2, none⟩) hbx).trans b2
                  have b3' : W.cell? ⟨bx, 3, none⟩ = _ := (hI.cell (p := ⟨bx, 3, none⟩) hbx).trans b3
                  refine ⟨fun _ => .inl ?_, fun hw => (by rw [hwd] at hw; cases hw)⟩
                  clear h8 hwd
                  clear hI
                  generalize aq.eval = ρ at *
                  simp [go_sem, r9, b0', b1', b2', b3']
                · injection ho with ho
                  subst ho
                  have d9 : aq.eval (.tmp 45) = .agg #[.int .u8 lk, .int .i64 lx, .int .i64 lf, .int .i64 lt] := hdep ⟨9, .data⟩ (by simp) rfl _ _ rfl rfl
                  have d10 : aq.eval (.tmp 46) = .agg #[.int .u8 ok, .int .i64 ox, .int .i64 of', .int .i64 ot] := hdep ⟨10, .data⟩ (by simp) rfl _ _ rfl rfl
                  have h8 : aq.tmps.getD 39 undef = .bool true := hdep ⟨3, .guard⟩ (by simp) rfl _ _ rfl rfl
                  have hwd := hgd 3 true rfl _ _ rfl rfl true h8
                  clear hdep hgd
                  refine ⟨fun _ => .inr ⟨27, #[.agg #[.int .u8 lk, .int .i64 lx, .int .i64 lf, .int .i64 lt], .agg #[.int .u8 ok, .int .i64 ox, .int .i64 of', .int .i64 ot]], ?_, hj W⟩, fun hw => (by rw [hwd] at hw; cases hw)⟩
                  clear h8 hwd
                  clear hI
                  generalize aq.eval = ρ at *
                  simp [go_sem, d9, d10, hfn]
                · injection ho with ho
                  subst ho
                  have d3 : aq.eval (.tmp 39) = .bool true := hdep ⟨3, .data⟩ (by simp) rfl _ _ rfl rfl
                  have d11 : aq.eval (.tmp 47) = .bool false := hdep ⟨11, .data⟩ (by simp) rfl _ _ rfl rfl
                  clear hdep hgd
                  refine ⟨fun _ => .inl ?_, fun hw => (by simp [Region.wanted] at hw)⟩
                  clear hI
                  generalize aq.eval = ρ at *
                  simp [go_sem, d3, d11]
                · simp at ho
              intro wx hb
              simp only [putAll, Act.put, List.setIfInBounds_toArray, List.set_cons_zero, List.set_cons_succ, Nat.reduceAdd]
              clear hj
              have HR2 := Lib.hid (ownsRow_below HR1.out hb)
              have HB2 := Lib.hid (HB1.out.trans (hb.mono (B' := w3.heap.size) HB1.out.size))
              have b0' := (hb.cell (p := ⟨bx, 0, none⟩) hbx).trans b0
              have b1' := (hb.cell (p := ⟨bx, 1, none⟩) hbx).trans b1
              have b2' := (hb.cell (p := ⟨bx, 2, none⟩) hbx).trans b2
              have b3' := (hb.cell (p := ⟨bx, 3, none⟩) hbx).trans b3
              have hsx := HB2.out.size
              clear c0 c1 c2 c3 b0 b1 b2 b3 hb HBB
              go_wp2_with (at_builtin; refine wpList_append_any _ rfl (.tmp 64) (.tmp 66) _ rfl w3.heap.size 27 i0 _ 4 32 Try.underlying22 hi hz0 hz1 hz2 rfl (by omega) (.slice (some ⟨gr, 0, none⟩) m cap) m (ogCells acc) rfl (HR2.out.alloc _) (some ⟨wx.heap.size, 0, none⟩) 1 1 (ogCells [(ok, ox, of', ot)]) rfl (OgsR.lit wx 27 [(ok, ox, of', ot)] _ rfl).toSrc (one_ogs _) (by simp only [maxLen]; omega) (by omega) (by simp; omega) ?_; intro v1 w1 hown1 hg1 _)
              have hb3 := below_of_row (HB2.out.alloc hsx (.cells #[.int .u8 ok, .int .i64 ox, .int .i64 of', .int .i64 ot] 27)) (HR2.out.alloc _) (Nat.le_refl _) hg1 (by simp; omega)
              have HB4 := Lib.hid hb3
              have HO1 := Lib.hid hown1
              clear hb3 hown1 hg1
              go_roundg g
              case measure => omega
              case rel => exact ⟨k + 1, by have := HG.out; omega, by go_num, by rw [HST.out, List.length_append, HMM.out, ogCells_append]; exact HO1.out, HB4.out⟩
    | succ g =>
      have hk : k < l.length := by omega
      have HG := Lib.hid hkg
      clear hkg
      obtain ⟨b, off, hAt, hbl, hc⟩ := HL.out (by omega)
      obtain ⟨e0, e1, e2, e3⟩ := hc k hk
      have f0 := (HB.out.cell (p := ⟨b, off + k * 4, none⟩) hbl).trans e0
      have f1 := (HB.out.cell (p := ⟨b, off + k * 4 + 1, none⟩) hbl).trans e1
      have f2 := (HB.out.cell (p := ⟨b, off + k * 4 + 2, none⟩) hbl).trans e2
      have f3 := (HB.out.cell (p := ⟨b, off + k * 4 + 3, none⟩) hbl).trans e3
      clear e0 e1 e2 e3 hc
      have hst := ogLive_take l k hk
      obtain ⟨o, hgl⟩ : ∃ o, l.getD k (0, 0, 0, 0) = o := ⟨_, rfl⟩
      rw [hgl] at f0 f1 f2 f3 hst
      clear hgl
      obtain ⟨ok, ox, of', ot⟩ := o
      simp only at f0 f1 f2 f3 hst
      subst hAt
      obtain ⟨Av, cv, rfl, _⟩ := ownsRow_ogs HR.out
      by_cases hlv : of' ≤ ot
      · rw [if_pos hlv] at hst
        have hlv' : decide (of' ≤ ot) = true := decide_eq_true hlv
        have HST := Lib.hid hst
        clear hst hlv
        have HB1 := Lib.hid (HB.out.alloc hsz (.cells #[.int .u8 ok, .int .i64 ox, .int .i64 of', .int .i64 ot] 27))
        have HR1 := Lib.hid (HR.out.alloc (.cells #[.int .u8 ok, .int .i64 ox, .int .i64 of', .int .i64 ot] 27))
        generalize ogLive (l.take k) = lv at *
        go_wp2_with (at_builtin; refine wpList_append_any _ rfl (.tmp 22) (.tmp 24) _ rfl w.heap.size 27 i0 _ 4 32 Try.underlying22 hi hz0 hz1 hz2 rfl (by omega) (.slice Av lv.length cv) lv.length (ogCells lv) rfl (HR1.out.alloc _) (some ⟨wr.heap.size + 1, 0, none⟩) 1 1 (ogCells [(ok, ox, of', ot)]) rfl (src_one wr _ 27 (ok, ox, of', ot) _ rfl) (one_ogs _) (by simp only [maxLen]; omega) (by omega) (by simp; omega) ?_; intro v1 w1 hown1 hg1 _)
        have hb3 := below_of_row (HB1.out.alloc (by simp; omega) (.cells #[.int .u8 ok, .int .i64 ox, .int .i64 of', .int .i64 ot] 27)) (HR1.out.alloc _) (Nat.le_refl _) hg1 (by simp; omega)
        have HB4 := Lib.hid hb3
        have HO1 := Lib.hid hown1
        clear hb3 hown1 hg1
        go_roundg g
        case measure => omega
        case rel => exact ⟨k + 1, by have := HG.out; omega, by go_num, by rw [HST.out, List.length_append, ogCells_append]; exact HO1.out, HB4.out⟩
      · rw [if_neg hlv] at hst
        have hlv' : decide (of' ≤ ot) = false := decide_eq_false hlv
        have HST := Lib.hid hst
        clear hst hlv
        go_wp2_with fail
        go_roundg g
        case measure => omega
        case rel => exact ⟨k + 1, by have := HG.out; omega, by go_num, by rw [HST.out]; exact HR.out.alloc _, HB.out.alloc hsz _⟩
end Go.Proofs.Ytklfijhlibpmaaa
