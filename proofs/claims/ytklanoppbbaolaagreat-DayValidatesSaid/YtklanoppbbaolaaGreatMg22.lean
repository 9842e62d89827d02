/- The text CkG. -/
import Derived.Test.YtklanoppbbaolaaGreatMg18
import Derived.Test.YtklanoppbbaolaaGreatMg21
/- day.checkHour. -/
namespace Go.Proofs.YtklanoppbbaolaaGreat
open Go.RowKit
set_option linter.unusedVariables false
set_option linter.unusedSimpArgs false
set_option maxRecDepth 100000

theorem fstE_at {α : Type} {f : α → Int} {l : List α} {k : Nat} (d : α) (hk : k < l.length) : fstE f (l.drop k) = if f (l.getD k d) ≠ 0 then f (l.getD k d) else fstE f (l.drop (k + 1)) := by
  rw [List.drop_eq_getElem_cons hk, ← getD_eq l k d hk, fstE]
theorem fstE_end {α : Type} (f : α → Int) (l : List α) : fstE f (l.drop l.length) = 0 := by rw [List.drop_length]; rfl
theorem zip_getD (a b : List Bd) (k : Nat) (h : k < a.length) (h' : k < b.length) : (a.zip b).getD k (bd0, bd0) = (a.getD k bd0, b.getD k bd0) := by
  rw [getD_eq _ _ _ (by rw [List.length_zip]; omega), getD_eq _ _ _ h, getD_eq _ _ _ h', List.getElem_zip]
/-- The bid at place k in its cells. -/
theorem bid_at {w w' : World} {B : Nat} {A : Option Addr} {l : List Bd} (h : RowR BdR 2 w B A l) (hb : ∀ p : Addr, p.block < B → w'.cell? p = w.cell? p) (k : Nat) (hk : k < l.length) :
    ∃ b off A' c', A = some ⟨b, off, none⟩ ∧ b < B ∧ w'.cell? ⟨b, off + k * 2, none⟩ = some (.int .i64 (l.getD k bd0).bus) ∧ w'.cell? ⟨b, off + k * 2 + 1, none⟩ = some (.slice A' (l.getD k bd0).steps.length c') ∧ RowR StE 2 w' B A' (l.getD k bd0).steps := by
  obtain ⟨b, off, cc, rfl, hbl, hcn, ⟨A', c', he, _, hr⟩, hcc⟩ := h.at_ k bd0 hk
  rw [he] at hcc
  exact ⟨b, off, A', c', rfl, hbl, (hb _ hbl).trans (hcc 0 _ rfl), (hb _ hbl).trans (hcc 1 _ rfl), hr.keep StE.keep hb (Nat.le_refl _)⟩
theorem below_two (w : World) (o o' : Obj) : Below w.heap.size w ((w.alloc o).alloc o') := ((Below.refl _ _).alloc (Nat.le_refl _) _).alloc (by simp) _
theorem getD_mem {α : Type} {l : List α} {k : Nat} (d : α) (hk : k < l.length) : l.getD k d ∈ l := by rw [getD_eq l k d hk]; exact List.getElem_mem hk
set_option maxHeartbeats 16000000 in
theorem hour_any (h f : Hr) (A A1 A2 A3 : Option Addr) (c c1 c2 c3 : Nat) (n : Int) (w : World) (hr : RowR BdR 2 w w.heap.size A h.bids) (hr1 : RowR BdR 2 w w.heap.size A1 h.real) (hr2 : RowR BdR 2 w w.heap.size A2 f.bids) :
    Calls Tryz.prog 32 #[.agg #[.slice A h.bids.length c, .slice A1 h.real.length c1, .int .i64 h.need], .agg #[.slice A2 f.bids.length c2, .slice A3 f.real.length c3, .int .i64 f.need], .int .i64 n] w (ErrE w (hourE n f h)) := by
  have HR := Lib.hid hr
  have HR1 := Lib.hid hr1
  have HR2 := Lib.hid hr2
  have E : Hid (hourE n f h = if 6 < h.bids.length then 5
    else if fstE (bidE n) h.bids ≠ 0 then fstE (bidE n) h.bids
    else if h.real.length ≠ h.bids.length then 3
    else if fstE realE (h.real.zip h.bids) ≠ 0 then fstE realE (h.real.zip h.bids)
    else if h.need < 0 ∨ 1000000 < h.need then 1
    else if h.bids.length ≠ f.bids.length then 3
    else fstE busNe (h.bids.zip f.bids)) := rfl
  have KF := Lib.hid fun A c l W hr => fall_any A c l W hr
  generalize hourE n f h = R at *
  have HB0 := Lib.hid (below_two w (.cells #[.slice A h.bids.length c, .slice A1 h.real.length c1, .int .i64 h.need] 25) (.cells #[.slice A2 f.bids.length c2, .slice A3 f.real.length c3, .int .i64 f.need] 25))
  have HXh : Hid (Box ((w.alloc (.cells #[.slice A h.bids.length c, .slice A1 h.real.length c1, .int .i64 h.need] 25)).alloc (.cells #[.slice A2 f.bids.length c2, .slice A3 f.real.length c3, .int .i64 f.need] 25)) w.heap.size [.slice A h.bids.length c, .slice A1 h.real.length c1, .int .i64 h.need]) := (Box.new w #[.slice A h.bids.length c, .slice A1 h.real.length c1, .int .i64 h.need] 25).alloc (by simp) _
  have HXf : Hid (Box ((w.alloc (.cells #[.slice A h.bids.length c, .slice A1 h.real.length c1, .int .i64 h.need] 25)).alloc (.cells #[.slice A2 f.bids.length c2, .slice A3 f.real.length c3, .int .i64 f.need] 25)) (w.heap.size + 1) [.slice A2 f.bids.length c2, .slice A3 f.real.length c3, .int .i64 f.need]) := by
    have := Box.new (w.alloc (.cells #[.slice A h.bids.length c, .slice A1 h.real.length c1, .int .i64 h.need] 25)) #[.slice A2 f.bids.length c2, .slice A3 f.real.length c3, .int .i64 f.need] 25
    show Box _ _ _
    simpa using this
  clear hr hr1 hr2
  go_enter Tryz.func32, Tryz.ntmps32
  by_cases h6 : 6 < h.bids.length
  · have HE : Hid (R = 5) := E.out.trans (if_pos h6)
    have d1 : decide ((6 : Int) < (h.bids.length : Int)) = true := decide_eq_true (by omega)
    clear h6 E
    go_wp2_with fail
    go_ret
    exact ⟨ret_int HE.out.symm, HB0.out⟩
  have d1 : decide ((6 : Int) < (h.bids.length : Int)) = false := decide_eq_false (by omega)
  replace E : Hid (R = _) := E.out.trans (if_neg h6)
  have hl1 : h.bids.length ≤ 1000000 := by omega
  clear h6
  go_wp2_with fail
  go_loopg [6, 8, 9, 22] h.bids.length (fun g s6 s8 s9 s22 wr => ∃ k : Nat, k + g = h.bids.length ∧ s22 = .int .i64 (k : Int) ∧ fstE (bidE n) h.bids = fstE (bidE n) (h.bids.drop k) ∧ Below (w.heap.size + 2) ((w.alloc (.cells #[.slice A h.bids.length c, .slice A1 h.real.length c1, .int .i64 h.need] 25)).alloc (.cells #[.slice A2 f.bids.length c2, .slice A3 f.real.length c3, .int .i64 f.need] 25)) wr)
  case atStart => exact ⟨0, by omega, rfl, rfl, Below.refl _ _⟩
  case round =>
    obtain ⟨k, hkg, rfl, hs, hb⟩ := hrel
    have HB : Hid (Below w.heap.size w wr) := HB0.out.trans (hb.mono (by omega))
    have HBW := Lib.hid hb
    have hzz : w.heap.size + 2 ≤ wr.heap.size := by have := hb.size; simpa using this
    have HS := Lib.hid hs
    clear hs d1
    cases gk with
    | succ g =>
      have hk : k < h.bids.length := by omega
      have HG := Lib.hid hkg
      clear hkg hb
      have HS2 : Hid (fstE (bidE n) h.bids = _) := HS.out.trans (fstE_at bd0 hk)
      obtain ⟨b, off, A', c', rfl, hbl, f0, f1, hrs⟩ := bid_at HR.out (fun p hp => HB.out.cell hp) k hk
      have HRS := Lib.hid hrs
      have HBD : Hid (bidE n (h.bids.getD k bd0) = if !inB (h.bids.getD k bd0).bus n then 1 else stepsE falls (h.bids.getD k bd0).steps) := rfl
      clear hrs HS
      generalize bidE n (h.bids.getD k bd0) = bv at *
      generalize (h.bids.getD k bd0).bus = bus at *
      generalize (h.bids.getD k bd0).steps = steps at *
      have K1 := Lib.hid fun W hr => KF.out A' c' steps W hr
      have HB1 := Lib.hid (HB.out.alloc (by omega) (.cells #[.int .i64 bus, .slice A' steps.length c'] 38))
      have HBW1 := Lib.hid (HBW.out.alloc (by omega) (.cells #[.int .i64 bus, .slice A' steps.length c'] 38))
      by_cases hi : inB bus n = true
      · have hb' := hi
        unfold inB at hb'
        simp only [Bool.and_eq_true, decide_eq_true_eq] at hb'
        have d1 : decide (bus < 0) = false := decide_eq_false (by omega)
        have d2 : decide (n ≤ bus) = false := decide_eq_false (by omega)
        replace HBD : Hid (bv = _) := HBD.out.trans (if_neg (by rw [hi]; simp))
        clear hi hb'
        go_wp2_with fail
        refine (K1.out _ ((HRS.out.keep (w' := wr) StE.keep (fun _ _ => rfl) HB.out.size).upto StE.keep ((Below.refl wr.heap.size wr).alloc (Nat.le_refl _) _))).mono ?_
        rintro e w3 ⟨rfl, hb3⟩
        have HB2 := Lib.hid (HB1.out.trans (hb3.mono (by simp; omega)))
        have HBW2 := Lib.hid (HBW1.out.trans (hb3.mono (by simp; omega)))
        clear hb3 K1
        by_cases hv : bv = 0
        · have HF : Hid (fstE (bidE n) h.bids = _) := HS2.out.trans (if_neg (fun hh => hh hv))
          rw [← HBD.out, hv]
          clear HS2 hv
          go_wp2_with fail
          go_roundg g
          case measure => omega
          case rel => exact ⟨k + 1, by have := HG.out; omega, by go_num, HF.out, HBW2.out⟩
        · have HF : Hid (fstE (bidE n) h.bids = bv) := HS2.out.trans (if_pos hv)
          have HE : Hid (R = bv) := E.out.trans (by rw [HF.out, if_pos hv])
          rw [← HBD.out]
          have e0 : (bv == 0) = false := beq_eq_false_iff_ne.2 hv
          have e1 : (bv != 0) = true := bne_iff_ne.2 hv
          clear HS2 HF hv HBD E
          go_wp2_with fail
          try rw [Exit.noGoto_ret]
          go_ret
          exact ⟨ret_int HE.out.symm, HB2.out⟩
      · have hb' : bus < 0 ∨ (¬ bus < 0 ∧ n ≤ bus) := by
          simp [inB] at hi
          omega
        have hv : bv = 1 := HBD.out.trans (if_pos (by simp [hi]))
        have HF : Hid (fstE (bidE n) h.bids = 1) := by
          show _ = _
          rw [HS2.out, if_pos (by rw [hv]; decide), hv]
        have HE : Hid (R = 1) := E.out.trans (by rw [HF.out]; rfl)
        clear hi hv HS2 HF HBD E
        rcases hb' with h1 | ⟨h1, h2⟩
        · have d1 : decide (bus < 0) = true := decide_eq_true h1
          go_wp2_with fail
          try rw [Exit.noGoto_ret]
          go_ret
          exact ⟨ret_int HE.out.symm, HB1.out⟩
        · have d1 : decide (bus < 0) = false := decide_eq_false h1
          have d2 : decide (n ≤ bus) = true := decide_eq_true h2
          go_wp2_with fail
          try rw [Exit.noGoto_ret]
          go_ret
          exact ⟨ret_int HE.out.symm, HB1.out⟩
    | zero =>
      obtain rfl : k = h.bids.length := by omega
      have h0 : fstE (bidE n) h.bids = 0 := HS.out.trans (fstE_end _ _)
      replace E : Hid (R = _) := E.out.trans (if_neg (fun hh => hh h0))
      have HXh1 := Lib.hid (HXh.out.up hb (by omega))
      have HXf1 := Lib.hid (HXf.out.up hb (by omega))
      clear hkg hb h0 HS HXh HXf HB0
      have q0 := HXh1.out.c 0 _ rfl
      have s0 := HXh1.out.f 0 (by simp)
      have q1 := HXh1.out.c 1 _ rfl
      have s1 := HXh1.out.f 1 (by simp)
      have q2 := HXh1.out.c 2 _ rfl
      have s2 := HXh1.out.f 2 (by simp)
      have g0 := HXf1.out.c 0 _ rfl
      have y0 := HXf1.out.f 0 (by simp)
      have g1 := HXf1.out.c 1 _ rfl
      have y1 := HXf1.out.f 1 (by simp)
      have g2 := HXf1.out.c 2 _ rfl
      have y2 := HXf1.out.f 2 (by simp)
      clear s0 s1 s2 y0 y1 y2
      by_cases hlen : h.real.length = h.bids.length
      · replace E : Hid (R = _) := E.out.trans (if_neg (fun hh => hh hlen))
        have e1 : ((h.real.length : Int) != (h.bids.length : Int)) = false := by rw [hlen]; simp
        have HLN := Lib.hid hlen
        have hl2 : h.real.length ≤ 1000000 := by omega
        clear hlen
        obtain ⟨wo, rfl⟩ : ∃ wo : World, wo = wr := ⟨_, rfl⟩
        go_wp2_with fail
        clear e1 hzz
        go_loopg [6, 10, 11, 12, 52] h.real.length (fun g s6 s10 s11 s12 s52 wx => ∃ k : Nat, k + g = h.real.length ∧ s52 = .int .i64 (k : Int) ∧ fstE realE (h.real.zip h.bids) = fstE realE ((h.real.zip h.bids).drop k) ∧ Below (w.heap.size + 2) wo wx)
        case atStart => exact ⟨0, by omega, rfl, rfl, Below.refl _ _⟩
        case round =>
          obtain ⟨k, hkg, rfl, hs, hb⟩ := hrel
          have HB2 : Hid (Below w.heap.size w wr) := HB.out.trans (hb.mono (by omega))
          have HXh2 := Lib.hid (HXh1.out.up hb (by omega))
          have HXf2 := Lib.hid (HXf1.out.up hb (by omega))
          have hlth : w.heap.size < wr.heap.size := HXh2.out.lt (by simp)
          have HBO := Lib.hid hb
          have HS := Lib.hid hs
          clear hs hb
          clear q0 q1 q2 g0 g1 g2
          have q0 := HXh2.out.c 0 _ rfl
          have s0 := HXh2.out.f 0 (by simp)
          have q1 := HXh2.out.c 1 _ rfl
          have s1 := HXh2.out.f 1 (by simp)
          have q2 := HXh2.out.c 2 _ rfl
          have s2 := HXh2.out.f 2 (by simp)
          have g0 := HXf2.out.c 0 _ rfl
          have y0 := HXf2.out.f 0 (by simp)
          have g1 := HXf2.out.c 1 _ rfl
          have y1 := HXf2.out.f 1 (by simp)
          have g2 := HXf2.out.c 2 _ rfl
          have y2 := HXf2.out.f 2 (by simp)
          clear s0 s1 s2 y0 y1 y2
          cases gk with
          | succ g =>
            have hk : k < h.real.length := by omega
            have HG := Lib.hid hkg
            clear hkg
            have hkb : k < h.bids.length := by have := HLN.out; omega
            have hkz : k < (h.real.zip h.bids).length := by rw [List.length_zip]; omega
            have HS2 : Hid (fstE realE (h.real.zip h.bids) = if realE (h.real.getD k bd0, h.bids.getD k bd0) ≠ 0 then realE (h.real.getD k bd0, h.bids.getD k bd0) else fstE realE ((h.real.zip h.bids).drop (k + 1))) := by
              show _ = _
              rw [HS.out, fstE_at (bd0, bd0) hkz, zip_getD _ _ _ hk hkb]
            obtain ⟨b, off, A', c', rfl, hbl, f0, f1, hrs⟩ := bid_at HR1.out (fun p hp => HB2.out.cell hp) k hk
            obtain ⟨b', off', A'', c'', rfl, hbl', f2, f3, _⟩ := bid_at HR.out (fun p hp => HB2.out.cell hp) k hkb
            have HRS := Lib.hid hrs
            have HBD : Hid (realE (h.real.getD k bd0, h.bids.getD k bd0) = if (h.real.getD k bd0).bus ≠ (h.bids.getD k bd0).bus then 3 else stepsE falls (h.real.getD k bd0).steps) := rfl
            clear hrs HS f3
            generalize realE (h.real.getD k bd0, h.bids.getD k bd0) = bv at *
            generalize (h.real.getD k bd0).bus = bus at *
            generalize (h.bids.getD k bd0).bus = bush at *
            generalize (h.real.getD k bd0).steps = steps at *
            have K1 := Lib.hid fun W hr => KF.out A' c' steps W hr
            have HB3 := Lib.hid (HB2.out.alloc (by omega) (.cells #[.int .i64 bus, .slice A' steps.length c'] 38))
            have HBO3 := Lib.hid (HBO.out.alloc (by have := HXf2.out.lt (by simp); omega) (.cells #[.int .i64 bus, .slice A' steps.length c'] 38))
            have hkl : (k : Int) < (h.bids.length : Int) := by omega
            have hbl2 : b' < wr.heap.size := Nat.lt_of_lt_of_le hbl' HB2.out.size
            have hbl1 : b < wr.heap.size := Nat.lt_of_lt_of_le hbl HB2.out.size
            go_wp2_with fail
            by_cases hi : bus = bush
            · subst hi
              replace HBD : Hid (bv = _) := HBD.out.trans (if_neg (fun hh => hh rfl))
              refine region_T (w0 := (wr.alloc (.cells #[.int .i64 bus, .slice A' steps.length c'] 38))) [(3, .pointer (some ⟨w.heap.size, 0, none⟩)), (10, .int .i64 (k : Int)), (11, .pointer (some ⟨wr.heap.size, 0, none⟩)), (57, .pointer (some ⟨wr.heap.size, 0, none⟩)), (58, .int .i64 bus), (59, .pointer (some ⟨w.heap.size, 0, none⟩)), (60, .slice (some ⟨b', off', none⟩) h.bids.length c), (61, .int .i64 (k : Int)), (62, .pointer (some ⟨b', off' + k * 2, none⟩)), (63, .pointer (some ⟨b', off' + k * 2, none⟩)), (64, .int .i64 bus), (65, .bool false)] [] [3, 10, 11] ?_ ?_
              · intro T hT W hI
                simp only [HoldsT, and_true] at hT
                have l0 : W.cell? ⟨wr.heap.size, 0, none⟩ = some (.int .i64 bus) := (hI.cell (p := ⟨wr.heap.size, 0, none⟩) (by simp)).trans (by simp)
                have l1 : W.cell? ⟨w.heap.size, 0, none⟩ = _ := (hI.cell (p := ⟨w.heap.size, 0, none⟩) (by simp; omega)).trans (cell_alloc_of _ q0)
                have l2 : W.cell? ⟨b', off' + k * 2, none⟩ = _ := (hI.cell (p := ⟨b', off' + k * 2, none⟩) (by simp; omega)).trans (cell_alloc_of _ f2)
                repeat' first | exact AllO.nil | apply AllO.cons
                all_goals try ((first | refine oV ?_ | refine oN ?_ | refine oG (t := by simp only [hT]) (h := ?_)); simp [go_sem, EvT, hT, l0, l1, hkl, l2, valT]; done)
              intro wx hb
              simp (decide := true) only [putT, valT, look, Act.put, List.setIfInBounds_toArray, List.set_cons_zero, List.set_cons_succ, Nat.reduceAdd, if_true, if_false]
              have HB4 := Lib.hid (HB3.out.trans (hb.mono (by simp; omega)))
              have HBO4 := Lib.hid (HBO3.out.trans (hb.mono (by have := HXf2.out.lt (by simp); simp; omega)))
              have HXB := Lib.hid ((Box.new wr #[.int .i64 bus, .slice A' steps.length c'] 38).up hb (by simp))
              have hltx : wr.heap.size < wx.heap.size := HXB.out.lt (by simp)
              clear hb
              have u0 := HXB.out.c 0 _ rfl
              have v0 := HXB.out.f 0 (by simp)
              have u1 := HXB.out.c 1 _ rfl
              have v1 := HXB.out.f 1 (by simp)
              clear v0 v1
              go_wp2_with fail
              refine (K1.out _ (HRS.out.keep (w' := wx) StE.keep (fun p hp => (HB4.out.cell hp).trans (HB2.out.cell hp).symm) HB4.out.size)).mono ?_
              rintro e w4 ⟨rfl, hb4⟩
              have HB5 := Lib.hid (HB4.out.trans (hb4.mono HB4.out.size))
              have HBO5 := Lib.hid (HBO4.out.trans (hb4.mono (by have := HXf2.out.lt (by simp); omega)))
              clear hb4 K1
              by_cases hv : bv = 0
              · have HF : Hid (fstE realE (h.real.zip h.bids) = _) := HS2.out.trans (if_neg (fun hh => hh hv))
                rw [← HBD.out, hv]
                clear HS2 hv
                go_wp2_with fail
                go_roundg g
                case measure => omega
                case rel => exact ⟨k + 1, by have := HG.out; omega, by go_num, HF.out, HBO5.out⟩
              · have HF : Hid (fstE realE (h.real.zip h.bids) = bv) := HS2.out.trans (if_pos hv)
                have HE : Hid (R = bv) := E.out.trans (by rw [HF.out, if_pos hv])
                rw [← HBD.out]
                have e0 : (bv == 0) = false := beq_eq_false_iff_ne.2 hv
                have e1 : (bv != 0) = true := bne_iff_ne.2 hv
                clear HS2 HF hv HBD E
                go_wp2_with fail
                try rw [Exit.noGoto_ret]
                go_ret
                exact ⟨ret_int HE.out.symm, HB5.out⟩
            · have hne : (bus != bush) = true := bne_iff_ne.2 hi
              have hne2 : (bus == bush) = false := beq_eq_false_iff_ne.2 hi
              have hv : bv = 3 := HBD.out.trans (if_pos hi)
              have HF : Hid (fstE realE (h.real.zip h.bids) = 3) := by
                show _ = _
                rw [HS2.out, if_pos (by rw [hv]; decide), hv]
              have HE : Hid (R = 3) := E.out.trans (by rw [HF.out]; rfl)
              clear hi hv HS2 HF HBD E
              refine region_T (w0 := (wr.alloc (.cells #[.int .i64 bus, .slice A' steps.length c'] 38))) [(3, .pointer (some ⟨w.heap.size, 0, none⟩)), (10, .int .i64 (k : Int)), (11, .pointer (some ⟨wr.heap.size, 0, none⟩)), (57, .pointer (some ⟨wr.heap.size, 0, none⟩)), (58, .int .i64 bus), (59, .pointer (some ⟨w.heap.size, 0, none⟩)), (60, .slice (some ⟨b', off', none⟩) h.bids.length c), (61, .int .i64 (k : Int)), (62, .pointer (some ⟨b', off' + k * 2, none⟩)), (63, .pointer (some ⟨b', off' + k * 2, none⟩)), (64, .int .i64 bush), (65, .bool true)] [] [3, 10, 11] ?_ ?_
              · intro T hT W hI
                simp only [HoldsT, and_true] at hT
                have l0 : W.cell? ⟨wr.heap.size, 0, none⟩ = some (.int .i64 bus) := (hI.cell (p := ⟨wr.heap.size, 0, none⟩) (by simp)).trans (by simp)
                have l1 : W.cell? ⟨w.heap.size, 0, none⟩ = _ := (hI.cell (p := ⟨w.heap.size, 0, none⟩) (by simp; omega)).trans (cell_alloc_of _ q0)
                have l2 : W.cell? ⟨b', off' + k * 2, none⟩ = _ := (hI.cell (p := ⟨b', off' + k * 2, none⟩) (by simp; omega)).trans (cell_alloc_of _ f2)
                repeat' first | exact AllO.nil | apply AllO.cons
                all_goals try ((first | refine oV ?_ | refine oN ?_ | refine oG (t := by simp only [hT]) (h := ?_)); simp [go_sem, EvT, hT, l0, l1, hkl, l2, hne, valT]; done)
              intro wx hb
              simp (decide := true) only [putT, valT, look, Act.put, List.setIfInBounds_toArray, List.set_cons_zero, List.set_cons_succ, Nat.reduceAdd, if_true, if_false]
              have HB4 := Lib.hid (HB3.out.trans (hb.mono (by simp; omega)))
              clear hb
              go_wp2_with fail
              try rw [Exit.noGoto_ret]
              go_ret
              exact ⟨ret_int HE.out.symm, HB4.out⟩
          | zero =>
            obtain rfl : k = h.real.length := by omega
            have h0 : fstE realE (h.real.zip h.bids) = 0 := by
              have e := HS.out
              rwa [List.drop_eq_nil_of_le (by rw [List.length_zip]; omega)] at e
            replace E : Hid (R = _) := E.out.trans (if_neg (fun hh => hh h0))
            clear hkg h0 HS
            by_cases hn : h.need < 0 ∨ 1000000 < h.need
            · have HE : Hid (R = 1) := E.out.trans (if_pos hn)
              clear E
              have hn' : decide (h.need < 0) = true ∨ (decide (h.need < 0) = false ∧ decide (1000000 < h.need) = true) := by
                by_cases hh : h.need < 0
                · exact .inl (decide_eq_true hh)
                · exact .inr ⟨decide_eq_false hh, decide_eq_true (by omega)⟩
              clear hn
              rcases hn' with d1 | ⟨d1, d2⟩
              all_goals
                go_wp2_with fail
                go_ret
                exact ⟨ret_int HE.out.symm, HB2.out⟩
            replace E : Hid (R = _) := E.out.trans (if_neg hn)
            have d1 : decide (h.need < 0) = false := decide_eq_false (by omega)
            have d2 : decide (1000000 < h.need) = false := decide_eq_false (by omega)
            clear hn
            by_cases hlf : h.bids.length = f.bids.length
            · replace E : Hid (R = _) := E.out.trans (if_neg (fun hh => hh hlf))
              have HLF := Lib.hid hlf
              have e1 : ((h.bids.length : Int) != (f.bids.length : Int)) = false := by rw [hlf]; simp
              obtain ⟨wy, rfl⟩ : ∃ wy : World, wy = wr := ⟨_, rfl⟩
              clear hlf
              go_wp2_with fail
              clear e1 d1 d2
              go_loopg [6, 13, 14, 91] h.bids.length (fun g s6 s13 s14 s91 wx => ∃ k : Nat, k + g = h.bids.length ∧ s91 = .int .i64 (k : Int) ∧ fstE busNe (h.bids.zip f.bids) = fstE busNe ((h.bids.zip f.bids).drop k) ∧ Below (w.heap.size + 2) wy wx)
              case atStart => exact ⟨0, by omega, rfl, rfl, Below.refl _ _⟩
              case round =>
                obtain ⟨k, hkg, rfl, hs, hb⟩ := hrel
                have HB3 : Hid (Below w.heap.size w wr) := HB2.out.trans (hb.mono (by omega))
                have HXh3 := Lib.hid (HXh2.out.up hb (by omega))
                have HXf3 := Lib.hid (HXf2.out.up hb (by omega))
                have hlth3 : w.heap.size < wr.heap.size := HXh3.out.lt (by simp)
                have hltf3 : w.heap.size + 1 < wr.heap.size := HXf3.out.lt (by simp)
                have HBO3 := Lib.hid hb
                have HS := Lib.hid hs
                clear hs hb
                clear q0 q1 q2 g0 g1 g2
                have q0 := HXh3.out.c 0 _ rfl
                have s0 := HXh3.out.f 0 (by simp)
                have q1 := HXh3.out.c 1 _ rfl
                have s1 := HXh3.out.f 1 (by simp)
                have q2 := HXh3.out.c 2 _ rfl
                have s2 := HXh3.out.f 2 (by simp)
                have g0 := HXf3.out.c 0 _ rfl
                have y0 := HXf3.out.f 0 (by simp)
                have g1 := HXf3.out.c 1 _ rfl
                have y1 := HXf3.out.f 1 (by simp)
                have g2 := HXf3.out.c 2 _ rfl
                have y2 := HXf3.out.f 2 (by simp)
                clear s0 s1 s2 y0 y1 y2
                cases gk with
                | zero =>
                  obtain rfl : k = h.bids.length := by omega
                  have h0 : fstE busNe (h.bids.zip f.bids) = 0 := by
                    have e := HS.out
                    rwa [List.drop_eq_nil_of_le (by rw [List.length_zip]; omega)] at e
                  have HE : Hid (R = 0) := E.out.trans h0
                  clear hkg h0 HS E
                  go_wp2_with fail
                  try rw [Exit.noGoto_ret]
                  go_ret
                  exact ⟨ret_int HE.out.symm, HB3.out⟩
                | succ g =>
                  have hk : k < h.bids.length := by omega
                  have HG := Lib.hid hkg
                  clear hkg
                  have hkf : k < f.bids.length := by have := HLF.out; omega
                  have hkz : k < (h.bids.zip f.bids).length := by rw [List.length_zip]; omega
                  have HS2 : Hid (fstE busNe (h.bids.zip f.bids) = if busNe (h.bids.getD k bd0, f.bids.getD k bd0) ≠ 0 then busNe (h.bids.getD k bd0, f.bids.getD k bd0) else fstE busNe ((h.bids.zip f.bids).drop (k + 1))) := by
                    show _ = _
                    rw [HS.out, fstE_at (bd0, bd0) hkz, zip_getD _ _ _ hk hkf]
                  obtain ⟨b, off, A', c', rfl, hbl, f0, f1, _⟩ := bid_at HR.out (fun p hp => HB3.out.cell hp) k hk
                  obtain ⟨b', off', A'', c'', rfl, hbl', f2, f3, _⟩ := bid_at HR2.out (fun p hp => HB3.out.cell hp) k hkf
                  have HBD : Hid (busNe (h.bids.getD k bd0, f.bids.getD k bd0) = if (h.bids.getD k bd0).bus ≠ (f.bids.getD k bd0).bus then 3 else 0) := rfl
                  clear HS f3
                  generalize busNe (h.bids.getD k bd0, f.bids.getD k bd0) = bv at *
                  generalize (h.bids.getD k bd0).bus = bus at *
                  generalize (f.bids.getD k bd0).bus = busf at *
                  generalize (h.bids.getD k bd0).steps = steps at *
                  have HB4 := Lib.hid (HB3.out.alloc (by omega) (.cells #[.int .i64 bus, .slice A' steps.length c'] 38))
                  have HBO4 := Lib.hid (HBO3.out.alloc (by omega) (.cells #[.int .i64 bus, .slice A' steps.length c'] 38))
                  have hkl : (k : Int) < (f.bids.length : Int) := by omega
                  have hbl2 : b' < wr.heap.size := Nat.lt_of_lt_of_le hbl' HB3.out.size
                  have hbl1 : b < wr.heap.size := Nat.lt_of_lt_of_le hbl HB3.out.size
                  go_wp2_with fail
                  by_cases hi : bus = busf
                  · subst hi
                    have hv : bv = 0 := HBD.out.trans (if_neg (fun hh => hh rfl))
                    have HF : Hid (fstE busNe (h.bids.zip f.bids) = _) := HS2.out.trans (if_neg (fun hh => hh hv))
                    clear HS2 HBD hv
                    refine region_T (w0 := (wr.alloc (.cells #[.int .i64 bus, .slice A' steps.length c'] 38))) [(4, .pointer (some ⟨w.heap.size + 1, 0, none⟩)), (13, .int .i64 (k : Int)), (14, .pointer (some ⟨wr.heap.size, 0, none⟩)), (96, .pointer (some ⟨wr.heap.size, 0, none⟩)), (97, .int .i64 bus), (98, .pointer (some ⟨w.heap.size + 1, 0, none⟩)), (99, .slice (some ⟨b', off', none⟩) f.bids.length c2), (100, .int .i64 (k : Int)), (101, .pointer (some ⟨b', off' + k * 2, none⟩)), (102, .pointer (some ⟨b', off' + k * 2, none⟩)), (103, .int .i64 bus), (104, .bool false)] [] [4, 13, 14] ?_ ?_
                    · intro T hT W hI
                      simp only [HoldsT, and_true] at hT
                      have l0 : W.cell? ⟨wr.heap.size, 0, none⟩ = some (.int .i64 bus) := (hI.cell (p := ⟨wr.heap.size, 0, none⟩) (by simp)).trans (by simp)
                      have l1 : W.cell? ⟨w.heap.size + 1, 0, none⟩ = _ := (hI.cell (p := ⟨w.heap.size + 1, 0, none⟩) (by simp; omega)).trans (cell_alloc_of _ g0)
                      have l2 : W.cell? ⟨b', off' + k * 2, none⟩ = _ := (hI.cell (p := ⟨b', off' + k * 2, none⟩) (by simp; omega)).trans (cell_alloc_of _ f2)
                      repeat' first | exact AllO.nil | apply AllO.cons
                      all_goals try ((first | refine oV ?_ | refine oN ?_ | refine oG (t := by simp only [hT]) (h := ?_)); simp [go_sem, EvT, hT, l0, l1, hkl, l2, valT]; done)
                    intro wx hb
                    simp (decide := true) only [putT, valT, look, Act.put, List.setIfInBounds_toArray, List.set_cons_zero, List.set_cons_succ, Nat.reduceAdd, if_true, if_false]
                    have HBO5 := Lib.hid (HBO4.out.trans (hb.mono (by simp; omega)))
                    clear hb
                    go_wp2_with fail
                    go_roundg g
                    case measure => omega
                    case rel => exact ⟨k + 1, by have := HG.out; omega, by go_num, HF.out, HBO5.out⟩
                  · have hne : (bus != busf) = true := bne_iff_ne.2 hi
                    have hne2 : (bus == busf) = false := beq_eq_false_iff_ne.2 hi
                    have hv : bv = 3 := HBD.out.trans (if_pos hi)
                    have HF : Hid (fstE busNe (h.bids.zip f.bids) = 3) := by
                      show _ = _
                      rw [HS2.out, if_pos (by rw [hv]; decide), hv]
                    have HE : Hid (R = 3) := E.out.trans HF.out
                    clear hi hv HS2 HF HBD E
                    refine region_T (w0 := (wr.alloc (.cells #[.int .i64 bus, .slice A' steps.length c'] 38))) [(4, .pointer (some ⟨w.heap.size + 1, 0, none⟩)), (13, .int .i64 (k : Int)), (14, .pointer (some ⟨wr.heap.size, 0, none⟩)), (96, .pointer (some ⟨wr.heap.size, 0, none⟩)), (97, .int .i64 bus), (98, .pointer (some ⟨w.heap.size + 1, 0, none⟩)), (99, .slice (some ⟨b', off', none⟩) f.bids.length c2), (100, .int .i64 (k : Int)), (101, .pointer (some ⟨b', off' + k * 2, none⟩)), (102, .pointer (some ⟨b', off' + k * 2, none⟩)), (103, .int .i64 busf), (104, .bool true)] [] [4, 13, 14] ?_ ?_
                    · intro T hT W hI
                      simp only [HoldsT, and_true] at hT
                      have l0 : W.cell? ⟨wr.heap.size, 0, none⟩ = some (.int .i64 bus) := (hI.cell (p := ⟨wr.heap.size, 0, none⟩) (by simp)).trans (by simp)
                      have l1 : W.cell? ⟨w.heap.size + 1, 0, none⟩ = _ := (hI.cell (p := ⟨w.heap.size + 1, 0, none⟩) (by simp; omega)).trans (cell_alloc_of _ g0)
                      have l2 : W.cell? ⟨b', off' + k * 2, none⟩ = _ := (hI.cell (p := ⟨b', off' + k * 2, none⟩) (by simp; omega)).trans (cell_alloc_of _ f2)
                      repeat' first | exact AllO.nil | apply AllO.cons
                      all_goals try ((first | refine oV ?_ | refine oN ?_ | refine oG (t := by simp only [hT]) (h := ?_)); simp [go_sem, EvT, hT, l0, l1, hkl, l2, hne, valT]; done)
                    intro wx hb
                    simp (decide := true) only [putT, valT, look, Act.put, List.setIfInBounds_toArray, List.set_cons_zero, List.set_cons_succ, Nat.reduceAdd, if_true, if_false]
                    have HB5 := Lib.hid (HB4.out.trans (hb.mono (by simp; omega)))
                    clear hb
                    go_wp2_with fail
                    try rw [Exit.noGoto_ret]
                    go_ret
                    exact ⟨ret_int HE.out.symm, HB5.out⟩
            · have HE : Hid (R = 3) := E.out.trans (if_pos hlf)
              have e1 : ((h.bids.length : Int) != (f.bids.length : Int)) = true := bne_iff_ne.2 (by omega)
              have e2 : ((h.bids.length : Int) == (f.bids.length : Int)) = false := beq_eq_false_iff_ne.2 (by omega)
              clear hlf E
              go_wp2_with fail
              go_ret
              exact ⟨ret_int HE.out.symm, HB2.out⟩
      · have HE : Hid (R = 3) := E.out.trans (if_pos hlen)
        have e1 : ((h.real.length : Int) != (h.bids.length : Int)) = true := bne_iff_ne.2 (by omega)
        have e2 : ((h.real.length : Int) == (h.bids.length : Int)) = false := beq_eq_false_iff_ne.2 (by omega)
        clear hlen E
        go_wp2_with fail
        go_ret
        exact ⟨ret_int HE.out.symm, HB.out⟩
end Go.Proofs.YtklanoppbbaolaaGreat
