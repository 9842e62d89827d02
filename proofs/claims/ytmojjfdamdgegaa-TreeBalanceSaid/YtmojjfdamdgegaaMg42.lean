/- The text BalA. -/
import Derived.Deep.DeepCutAuto
import Derived.Test.YtmojjfdamdgegaaMg35
import Derived.Test.YtmojjfdamdgegaaMg41
import Derived.Test.YtmojjfdamdgegaaMg26
/- The contract of balance. -/
namespace Go.Proofs.Ytmojjfdamdgegaa
open Go.RowKit
set_option linter.unusedVariables false

/-- A row and a truth. -/
def IntsB (w : World) (n : Nat) (l : List Int) (e : Ending) (w' : World) : Prop := ∃ g, e = .returned (.tuple #[.slice (some ⟨g, 0, none⟩) n n, .bool true]) ∧ w.heap.size ≤ g ∧ RowI 3 w' g l ∧ Below w.heap.size w w'
set_option maxRecDepth 100000 in
set_option maxHeartbeats 4000000 in
theorem balance_ok (n : Nat) (A : Option Addr) (c : Nat) (ls : List Ln) (T : Option Addr) (ct : Nat) (t : List Int) (w : World) (hl : LinesR w w.heap.size A ls) (ht : IntsR w w.heap.size T t) (hlen : t.length = ls.length) (hm : ls.length ≤ 1000000) (hn : n ≤ 1000000)
    (hv : ∀ j, j < ls.length → ∃ f g : Nat, (ls.getD j (0, 0, 0, 0)).1 = (f : Int) ∧ (ls.getD j (0, 0, 0, 0)).2.1 = (g : Int) ∧ f < n ∧ g < n) (hs : ∀ i, i < ls.length → -1 ≤ t.getD i 0 ∧ t.getD i 0 ≤ 1) :
    Calls Try.prog 33 #[.agg #[.int .i64 (n : Int), .slice A ls.length c], .slice T t.length ct] w (IntsB w n (balV ls t n ls.length)) := by
  have hmk := fun W => run_make_row' (P := Try.prog) 25 3 (.int .i64 0) 8 Try.underlying25 info_int rfl .i64 .i64 n (by omega) (by omega) W
  have hb0 : Below (w.heap.size + 1) (w.alloc (.cells #[.int .i64 (n : Int), .slice A ls.length c] 24)) ((w.alloc (.cells #[.int .i64 (n : Int), .slice A ls.length c] 24)).alloc (.cells (madeCells #[.int .i64 0] n) 3)) := (Below.refl _ _).alloc (by simp) _
  have hb1 : Below w.heap.size w ((w.alloc (.cells #[.int .i64 (n : Int), .slice A ls.length c] 24)).alloc (.cells (madeCells #[.int .i64 0] n) 3)) := ((Below.refl _ _).alloc (Nat.le_refl _) _).trans (hb0.mono (by omega))
  have hr0 := rowI_zero (w.alloc (.cells #[.int .i64 (n : Int), .slice A ls.length c] 24)) 3 n
  rw [World.size_alloc, ← balV_zero ls t n] at hr0
  have q1 : ((w.alloc (.cells #[.int .i64 (n : Int), .slice A ls.length c] 24)).alloc (.cells (madeCells #[.int .i64 0] n) 3)).cell? ⟨w.heap.size, 1, none⟩ = some (.slice A ls.length c) := (hb0.cell (p := ⟨w.heap.size, 1, none⟩) (by show w.heap.size < _; omega)).trans (by simp)
  have hz0 : w.heap.size + 2 ≤ ((w.alloc (.cells #[.int .i64 (n : Int), .slice A ls.length c] 24)).alloc (.cells (madeCells #[.int .i64 0] n) 3)).heap.size := by simp
  have hl1 := hl.upto hb1
  have ht1 := ht.upto hb1
  have hbl : 0 < ls.length → ∃ bl offl, A = some ⟨bl, offl, none⟩ ∧ bl < w.heap.size ∧ (∀ k, k < ls.length → w.cell? ⟨bl, offl + k * 4, none⟩ = some (.int .i64 (ls.getD k (0, 0, 0, 0)).1) ∧ w.cell? ⟨bl, offl + k * 4 + 1, none⟩ = some (.int .i64 (ls.getD k (0, 0, 0, 0)).2.1)) := fun h0 => by
    obtain ⟨bl, offl, e, hb, hc⟩ := hl h0
    exact ⟨bl, offl, e, hb, fun k hk => ⟨(hc k hk).1, (hc k hk).2.1⟩⟩
  have hbt : 0 < ls.length → ∃ bt offt, T = some ⟨bt, offt, none⟩ ∧ bt < w.heap.size ∧ (∀ k, k < ls.length → w.cell? ⟨bt, offt + k, none⟩ = some (.int .i64 (t.getD k 0))) := fun h0 => by
    obtain ⟨bt, offt, e, hb, hc⟩ := ht (by omega)
    exact ⟨bt, offt, e, hb, fun k hk => hc k (by omega)⟩
  have HBL := Lib.hid hbl
  have HBT := Lib.hid hbt
  have HV := Lib.hid hv
  have HS := Lib.hid hs
  have HR0 := Lib.hid hr0
  have HB1 := Lib.hid hb1
  rw [hlen]
  have HLN := Lib.hid hlen
  have HQ1 := Lib.hid q1
  have HZ0 := Lib.hid hz0
  clear hl ht hl1 ht1 hv hs hr0 hb0 hb1 hbl hbt hlen q1 hz0
  go_enter Try.func33, Try.ntmps33
  go_wp2_with fail
  try rw [World.size_alloc]
  generalize (w.alloc (.cells #[.int .i64 (n : Int), .slice A ls.length c] 24)).alloc (.cells (madeCells #[.int .i64 0] n) 3) = W0 at *
  go_loopg [7] ls.length (fun g i wr => ∃ k : Nat, k + g = ls.length ∧ i = .int .i64 k ∧ RowI 3 wr (w.heap.size + 1) (balV ls t n k) ∧ Below w.heap.size w wr ∧ wr.cell? ⟨w.heap.size, 1, none⟩ = some (.slice A ls.length c))
  case atStart => exact ⟨0, by omega, rfl, HR0.out, HB1.out, HQ1.out⟩
  case round =>
    obtain ⟨k, hkg, rfl, hrow, hbw, q1⟩ := hrel
    have HROW := Lib.hid hrow
    have HBW := Lib.hid hbw
    clear hrow hbw HQ1 HR0 HB1
    cases gk with
    | zero =>
      obtain rfl : k = ls.length := by omega
      clear hkg
      go_wp2_with fail
      go_ret2
      exact ⟨_, rfl, by omega, HROW.out, HBW.out⟩
    | succ g =>
      have hk : k < ls.length := by omega
      have HG := Lib.hid hkg
      clear hkg
      obtain ⟨bl, offl, hAl, hbl, hcl⟩ := HBL.out (by omega)
      subst hAl
      obtain ⟨bt, offt, hAt, hbt, hct⟩ := HBT.out (by omega)
      subst hAt
      obtain ⟨f, g', hf, hg, hfb, hgn⟩ := HV.out k hk
      obtain ⟨f0, f1⟩ := hcl k hk
      rw [hf] at f0
      rw [hg] at f1
      have et0 := hct k hk
      have fe := (HBW.out.cell (p := ⟨bl, offl + k * 4, none⟩) hbl).trans f0
      have et := (HBW.out.cell (p := ⟨bt, offt + k, none⟩) hbt).trans et0
      have eo := HROW.out.cell (i := f) (by rw [balV_len]; exact hfb)
      rw [balV_get _ _ _ _ _ hfb] at eo
      have hfz := HROW.out.frz f
      have hts := HS.out k hk
      have hbd := bal_bound ls t (f : Int) k (fun i hi => HS.out i (by omega))
      have hbd2 := bal_bound ls t (g' : Int) k (fun i hi => HS.out i (by omega))
      have HST := Lib.hid (balV_step ls t n k f g' hf hg hfb hgn)
      have i1 : ¬ t.getD k 0 < -1 := by omega
      have i2 : ¬ t.getD k 0 > 1 := by omega
      have hg0 : -(2 * (k : Int)) - 1 ≤ ((balV ls t n k).set f (bal ls t (f : Int) k + t.getD k 0)).getD g' 0 ∧ ((balV ls t n k).set f (bal ls t (f : Int) k + t.getD k 0)).getD g' 0 ≤ 2 * (k : Int) + 1 := by
        rw [getD_set', balV_len, balV_get _ _ _ _ _ hgn]
        split <;> omega
      have hrow2 := (show RowI 3 wr.drew (w.heap.size + 1) (balV ls t n k) from HROW.out).put f (bal ls t (f : Int) k + t.getD k 0)
      have hbw2 : Below w.heap.size w (wr.drew.setCell ⟨w.heap.size + 1, f, none⟩ (.int .i64 (bal ls t (f : Int) k + t.getD k 0))) := (show Below w.heap.size w wr.drew from HBW.out.drew).setCell (p := ⟨w.heap.size + 1, f, none⟩) (by show w.heap.size ≤ w.heap.size + 1; omega) _
      have q2 : (wr.drew.setCell ⟨w.heap.size + 1, f, none⟩ (.int .i64 (bal ls t (f : Int) k + t.getD k 0))).cell? ⟨w.heap.size, 1, none⟩ = some (.slice (some ⟨bl, offl, none⟩) ls.length c) := by
        exact (World.cell?_setCell_other _ _ _ _ (show (⟨w.heap.size + 1, _, none⟩ : Addr) ≠ ⟨w.heap.size, 1, none⟩ from fun h => by injection h with h; omega)).trans q1
      generalize bal ls t (f : Int) k = bo at *
      generalize hy : ((balV ls t n k).set f (bo + t.getD k 0)).getD g' 0 = yv at *
      generalize t.getD k 0 = tk at *
      have ew : IntKind.i64.wrap (bo + tk) = bo + tk := IntWalk.i64_in _ (by omega)
      have HR2 := Lib.hid hrow2
      have HB2 := Lib.hid hbw2
      have HTS := Lib.hid (show -1 ≤ tk ∧ tk ≤ 1 from hts)
      have HY := Lib.hid hy
      clear hcl hct hbd hbd2 hrow2 hbw2 hf hg hy hts
      go_wp2_with fail
      refine region_store (w0 := wr) (w1 := wr.drew.setCell ⟨w.heap.size + 1, f, none⟩ (.int .i64 (bo + tk))) 22 (fun jq => match jq with | 0 => .slice (some ⟨w.heap.size + 1, 0, none⟩) n n | 1 => .pointer (some ⟨w.heap.size, 1, none⟩) | 2 => .slice (some ⟨bl, offl, none⟩) ls.length c | 3 => .int .i64 (k : Int) | 4 => .pointer (some ⟨bl, offl + k * 4, none⟩) | 5 => .pointer (some ⟨bl, offl + k * 4, none⟩) | 6 => .int .i64 (f : Int) | 7 => .slice (some ⟨w.heap.size + 1, 0, none⟩) n n | 8 => .pointer (some ⟨w.heap.size, 1, none⟩) | 9 => .slice (some ⟨bl, offl, none⟩) ls.length c | 10 => .int .i64 (k : Int) | 11 => .pointer (some ⟨bl, offl + k * 4, none⟩) | 12 => .pointer (some ⟨bl, offl + k * 4, none⟩) | 13 => .int .i64 (f : Int) | 14 => .pointer (some ⟨w.heap.size + 1, f, none⟩) | 15 => .int .i64 bo | 16 => .slice (some ⟨bt, offt, none⟩) ls.length ct | 17 => .int .i64 (k : Int) | 18 => .pointer (some ⟨bt, offt + k, none⟩) | 19 => .int .i64 tk | 20 => .int .i64 (bo + tk) | 21 => .pointer (some ⟨w.heap.size + 1, f, none⟩) | 22 => undef | _ => undef) (by kernel_rfl) (by kernel_rfl) (by kernel_rfl) ?_ rfl ?_
      · intro iq oq ho aq hdep hrest hgd
        have r6 : aq.eval (.tmp 6) = .slice (some ⟨w.heap.size + 1, 0, none⟩) n n := hrest 6 (apart_of (by kernel_rfl))
        have r2 : aq.eval (.tmp 2) = .pointer (some ⟨w.heap.size, 0, none⟩) := hrest 2 (apart_of (by kernel_rfl))
        have r7 : aq.eval (.tmp 7) = .int .i64 (k : Int) := hrest 7 (apart_of (by kernel_rfl))
        have r1 : aq.eval (.tmp 1) = .slice (some ⟨bt, offt, none⟩) ls.length ct := hrest 1 (apart_of (by kernel_rfl))
        have hc : ∀ v, aq.eval (.const v) = v := fun _ => rfl
        have hfn : ∀ f, aq.eval (.func f) = .func (.func f) #[] #[] := fun _ => rfl
        clear hrest
        rcases iq with _ | _ | _ | _ | _ | _ | _ | _ | _ | _ | _ | _ | _ | _ | _ | _ | _ | _ | _ | _ | _ | _ | _ | iq
        · injection ho with ho
          subst ho
          clear hdep hgd
          refine ⟨fun _ => ⟨fun _ => ?_, fun h => absurd h (by decide)⟩, fun hw => (by simp [Region.wanted] at hw)⟩
          generalize aq.eval = ρ at *
          simp [go_sem, r6]
        · injection ho with ho
          subst ho
          clear hdep hgd
          refine ⟨fun _ => ⟨fun _ => ?_, fun h => absurd h (by decide)⟩, fun hw => (by simp [Region.wanted] at hw)⟩
          generalize aq.eval = ρ at *
          simp [go_sem, r2]
        · injection ho with ho
          subst ho
          have d1 : aq.eval (.tmp 36) = .pointer (some ⟨w.heap.size, 1, none⟩) := hdep ⟨1, .data⟩ (by simp) rfl _ _ rfl rfl
          clear hdep hgd
          refine ⟨fun _ => ⟨fun _ => ?_, fun h => absurd h (by decide)⟩, fun hw => (by simp [Region.wanted] at hw)⟩
          generalize aq.eval = ρ at *
          simp [go_sem, d1, q1]
        · injection ho with ho
          subst ho
          clear hdep hgd
          refine ⟨fun _ => ⟨fun _ => ?_, fun h => absurd h (by decide)⟩, fun hw => (by simp [Region.wanted] at hw)⟩
          generalize aq.eval = ρ at *
          simp [go_sem, r7]
        · injection ho with ho
          subst ho
          have d2 : aq.eval (.tmp 37) = .slice (some ⟨bl, offl, none⟩) ls.length c := hdep ⟨2, .data⟩ (by simp) rfl _ _ rfl rfl
          have d3 : aq.eval (.tmp 38) = .int .i64 (k : Int) := hdep ⟨3, .data⟩ (by simp) rfl _ _ rfl rfl
          clear hdep hgd
          refine ⟨fun _ => ⟨fun _ => ?_, fun h => absurd h (by decide)⟩, fun hw => (by simp [Region.wanted] at hw)⟩
          generalize aq.eval = ρ at *
          simp [go_sem, d2, d3, hk]
        · injection ho with ho
          subst ho
          have d4 : aq.eval (.tmp 39) = .pointer (some ⟨bl, offl + k * 4, none⟩) := hdep ⟨4, .data⟩ (by simp) rfl _ _ rfl rfl
          clear hdep hgd
          refine ⟨fun _ => ⟨fun _ => ?_, fun h => absurd h (by decide)⟩, fun hw => (by simp [Region.wanted] at hw)⟩
          generalize aq.eval = ρ at *
          simp [go_sem, d4]
        · injection ho with ho
          subst ho
          have d5 : aq.eval (.tmp 40) = .pointer (some ⟨bl, offl + k * 4, none⟩) := hdep ⟨5, .data⟩ (by simp) rfl _ _ rfl rfl
          clear hdep hgd
          refine ⟨fun _ => ⟨fun _ => ?_, fun h => absurd h (by decide)⟩, fun hw => (by simp [Region.wanted] at hw)⟩
          generalize aq.eval = ρ at *
          simp [go_sem, d5, fe]
        · injection ho with ho
          subst ho
          clear hdep hgd
          refine ⟨fun _ => ⟨fun _ => ?_, fun h => absurd h (by decide)⟩, fun hw => (by simp [Region.wanted] at hw)⟩
          generalize aq.eval = ρ at *
          simp [go_sem, r6]
        · injection ho with ho
          subst ho
          clear hdep hgd
          refine ⟨fun _ => ⟨fun _ => ?_, fun h => absurd h (by decide)⟩, fun hw => (by simp [Region.wanted] at hw)⟩
          generalize aq.eval = ρ at *
          simp [go_sem, r2]
        · injection ho with ho
          subst ho
          have d8 : aq.eval (.tmp 43) = .pointer (some ⟨w.heap.size, 1, none⟩) := hdep ⟨8, .data⟩ (by simp) rfl _ _ rfl rfl
          clear hdep hgd
          refine ⟨fun _ => ⟨fun _ => ?_, fun h => absurd h (by decide)⟩, fun hw => (by simp [Region.wanted] at hw)⟩
          generalize aq.eval = ρ at *
          simp [go_sem, d8, q1]
        · injection ho with ho
          subst ho
          clear hdep hgd
          refine ⟨fun _ => ⟨fun _ => ?_, fun h => absurd h (by decide)⟩, fun hw => (by simp [Region.wanted] at hw)⟩
          generalize aq.eval = ρ at *
          simp [go_sem, r7]
        · injection ho with ho
          subst ho
          have d9 : aq.eval (.tmp 44) = .slice (some ⟨bl, offl, none⟩) ls.length c := hdep ⟨9, .data⟩ (by simp) rfl _ _ rfl rfl
          have d10 : aq.eval (.tmp 45) = .int .i64 (k : Int) := hdep ⟨10, .data⟩ (by simp) rfl _ _ rfl rfl
          clear hdep hgd
          refine ⟨fun _ => ⟨fun _ => ?_, fun h => absurd h (by decide)⟩, fun hw => (by simp [Region.wanted] at hw)⟩
          generalize aq.eval = ρ at *
          simp [go_sem, d9, d10, hk]
        · injection ho with ho
          subst ho
          have d11 : aq.eval (.tmp 46) = .pointer (some ⟨bl, offl + k * 4, none⟩) := hdep ⟨11, .data⟩ (by simp) rfl _ _ rfl rfl
          clear hdep hgd
          refine ⟨fun _ => ⟨fun _ => ?_, fun h => absurd h (by decide)⟩, fun hw => (by simp [Region.wanted] at hw)⟩
          generalize aq.eval = ρ at *
          simp [go_sem, d11]
        · injection ho with ho
          subst ho
          have d12 : aq.eval (.tmp 47) = .pointer (some ⟨bl, offl + k * 4, none⟩) := hdep ⟨12, .data⟩ (by simp) rfl _ _ rfl rfl
          clear hdep hgd
          refine ⟨fun _ => ⟨fun _ => ?_, fun h => absurd h (by decide)⟩, fun hw => (by simp [Region.wanted] at hw)⟩
          generalize aq.eval = ρ at *
          simp [go_sem, d12, fe]
        · injection ho with ho
          subst ho
          have d7 : aq.eval (.tmp 42) = .slice (some ⟨w.heap.size + 1, 0, none⟩) n n := hdep ⟨7, .data⟩ (by simp) rfl _ _ rfl rfl
          have d13 : aq.eval (.tmp 48) = .int .i64 (f : Int) := hdep ⟨13, .data⟩ (by simp) rfl _ _ rfl rfl
          clear hdep hgd
          refine ⟨fun _ => ⟨fun _ => ?_, fun h => absurd h (by decide)⟩, fun hw => (by simp [Region.wanted] at hw)⟩
          generalize aq.eval = ρ at *
          simp [go_sem, d7, d13, hfb]
        · injection ho with ho
          subst ho
          have d14 : aq.eval (.tmp 49) = .pointer (some ⟨w.heap.size + 1, f, none⟩) := hdep ⟨14, .data⟩ (by simp) rfl _ _ rfl rfl
          clear hdep hgd
          refine ⟨fun _ => ⟨fun _ => ?_, fun h => absurd h (by decide)⟩, fun hw => (by simp [Region.wanted] at hw)⟩
          generalize aq.eval = ρ at *
          simp [go_sem, d14, eo]
        · injection ho with ho
          subst ho
          clear hdep hgd
          refine ⟨fun _ => ⟨fun _ => ?_, fun h => absurd h (by decide)⟩, fun hw => (by simp [Region.wanted] at hw)⟩
          generalize aq.eval = ρ at *
          simp [go_sem, r1]
        · injection ho with ho
          subst ho
          clear hdep hgd
          refine ⟨fun _ => ⟨fun _ => ?_, fun h => absurd h (by decide)⟩, fun hw => (by simp [Region.wanted] at hw)⟩
          generalize aq.eval = ρ at *
          simp [go_sem, r7]
        · injection ho with ho
          subst ho
          have d16 : aq.eval (.tmp 51) = .slice (some ⟨bt, offt, none⟩) ls.length ct := hdep ⟨16, .data⟩ (by simp) rfl _ _ rfl rfl
          have d17 : aq.eval (.tmp 52) = .int .i64 (k : Int) := hdep ⟨17, .data⟩ (by simp) rfl _ _ rfl rfl
          clear hdep hgd
          refine ⟨fun _ => ⟨fun _ => ?_, fun h => absurd h (by decide)⟩, fun hw => (by simp [Region.wanted] at hw)⟩
          generalize aq.eval = ρ at *
          simp [go_sem, d16, d17, hk]
        · injection ho with ho
          subst ho
          have d18 : aq.eval (.tmp 53) = .pointer (some ⟨bt, offt + k, none⟩) := hdep ⟨18, .data⟩ (by simp) rfl _ _ rfl rfl
          clear hdep hgd
          refine ⟨fun _ => ⟨fun _ => ?_, fun h => absurd h (by decide)⟩, fun hw => (by simp [Region.wanted] at hw)⟩
          generalize aq.eval = ρ at *
          simp [go_sem, d18, et]
        · injection ho with ho
          subst ho
          have d15 : aq.eval (.tmp 50) = .int .i64 bo := hdep ⟨15, .data⟩ (by simp) rfl _ _ rfl rfl
          have d19 : aq.eval (.tmp 54) = .int .i64 tk := hdep ⟨19, .data⟩ (by simp) rfl _ _ rfl rfl
          clear hdep hgd
          refine ⟨fun _ => ⟨fun _ => ?_, fun h => absurd h (by decide)⟩, fun hw => (by simp [Region.wanted] at hw)⟩
          generalize aq.eval = ρ at *
          simp [go_sem, d15, d19, ew]
        · injection ho with ho
          subst ho
          have d0 : aq.eval (.tmp 35) = .slice (some ⟨w.heap.size + 1, 0, none⟩) n n := hdep ⟨0, .data⟩ (by simp) rfl _ _ rfl rfl
          have d6 : aq.eval (.tmp 41) = .int .i64 (f : Int) := hdep ⟨6, .data⟩ (by simp) rfl _ _ rfl rfl
          clear hdep hgd
          refine ⟨fun _ => ⟨fun _ => ?_, fun h => absurd h (by decide)⟩, fun hw => (by simp [Region.wanted] at hw)⟩
          generalize aq.eval = ρ at *
          simp [go_sem, d0, d6, hfb]
        · injection ho with ho
          subst ho
          have d21 : aq.eval (.tmp 56) = .pointer (some ⟨w.heap.size + 1, f, none⟩) := hdep ⟨21, .data⟩ (by simp) rfl _ _ rfl rfl
          have d20 : aq.eval (.tmp 55) = .int .i64 (bo + tk) := hdep ⟨20, .data⟩ (by simp) rfl _ _ rfl rfl
          clear hdep hgd
          refine ⟨fun _ => ⟨fun h => absurd rfl h, fun _ => ?_⟩, fun hw => (by simp [Region.wanted] at hw)⟩
          generalize aq.eval = ρ at *
          simp [go_sem, d21, d20, eo, hfz]
        · simp at ho
      simp only [putAll, Act.put, List.setIfInBounds_toArray, List.set_cons_zero, List.set_cons_succ, Nat.reduceAdd]
      generalize wr.drew.setCell ⟨w.heap.size + 1, f, none⟩ (.int .i64 (bo + tk)) = wv at *
      have fe := (HB2.out.cell (p := ⟨bl, offl + k * 4 + 1, none⟩) hbl).trans f1
      have et := (HB2.out.cell (p := ⟨bt, offt + k, none⟩) hbt).trans et0
      have eo := HR2.out.cell (i := g') (by rw [List.length_set, balV_len]; exact hgn)
      have hy := HY.out
      simp only [hy] at eo
      have hfz := HR2.out.frz g'
      have hrow3 := (show RowI 3 wv.drew (w.heap.size + 1) _ from HR2.out).put g' (yv - tk)
      have hbw3 : Below w.heap.size w (wv.drew.setCell ⟨w.heap.size + 1, g', none⟩ (.int .i64 (yv - tk))) := (show Below w.heap.size w wv.drew from HB2.out.drew).setCell (p := ⟨w.heap.size + 1, g', none⟩) (by show w.heap.size ≤ w.heap.size + 1; omega) _
      have q3 : (wv.drew.setCell ⟨w.heap.size + 1, g', none⟩ (.int .i64 (yv - tk))).cell? ⟨w.heap.size, 1, none⟩ = some (.slice (some ⟨bl, offl, none⟩) ls.length c) := by
        exact (World.cell?_setCell_other _ _ _ _ (show (⟨w.heap.size + 1, _, none⟩ : Addr) ≠ ⟨w.heap.size, 1, none⟩ from fun h => by injection h with h; omega)).trans q2
      have ew : IntKind.i64.wrap (yv - tk) = yv - tk := IntWalk.i64_in _ (by have := HTS.out; omega)
      have HR3 := Lib.hid hrow3
      have HB3 := Lib.hid hbw3
      have q1 := q2
      clear hrow3 hbw3 hy HY q2
      go_wp2_with fail
      refine region_store (w0 := wv) (w1 := wv.drew.setCell ⟨w.heap.size + 1, g', none⟩ (.int .i64 (yv - tk))) 22 (fun jq => match jq with | 0 => .slice (some ⟨w.heap.size + 1, 0, none⟩) n n | 1 => .pointer (some ⟨w.heap.size, 1, none⟩) | 2 => .slice (some ⟨bl, offl, none⟩) ls.length c | 3 => .int .i64 (k : Int) | 4 => .pointer (some ⟨bl, offl + k * 4, none⟩) | 5 => .pointer (some ⟨bl, offl + k * 4 + 1, none⟩) | 6 => .int .i64 (g' : Int) | 7 => .slice (some ⟨w.heap.size + 1, 0, none⟩) n n | 8 => .pointer (some ⟨w.heap.size, 1, none⟩) | 9 => .slice (some ⟨bl, offl, none⟩) ls.length c | 10 => .int .i64 (k : Int) | 11 => .pointer (some ⟨bl, offl + k * 4, none⟩) | 12 => .pointer (some ⟨bl, offl + k * 4 + 1, none⟩) | 13 => .int .i64 (g' : Int) | 14 => .pointer (some ⟨w.heap.size + 1, g', none⟩) | 15 => .int .i64 yv | 16 => .slice (some ⟨bt, offt, none⟩) ls.length ct | 17 => .int .i64 (k : Int) | 18 => .pointer (some ⟨bt, offt + k, none⟩) | 19 => .int .i64 tk | 20 => .int .i64 (yv - tk) | 21 => .pointer (some ⟨w.heap.size + 1, g', none⟩) | 22 => undef | _ => undef) (by kernel_rfl) (by kernel_rfl) (by kernel_rfl) ?_ rfl ?_
      · intro iq oq ho aq hdep hrest hgd
        have r6 : aq.eval (.tmp 6) = .slice (some ⟨w.heap.size + 1, 0, none⟩) n n := hrest 6 (apart_of (by kernel_rfl))
        have r2 : aq.eval (.tmp 2) = .pointer (some ⟨w.heap.size, 0, none⟩) := hrest 2 (apart_of (by kernel_rfl))
        have r7 : aq.eval (.tmp 7) = .int .i64 (k : Int) := hrest 7 (apart_of (by kernel_rfl))
        have r1 : aq.eval (.tmp 1) = .slice (some ⟨bt, offt, none⟩) ls.length ct := hrest 1 (apart_of (by kernel_rfl))
        have hc : ∀ v, aq.eval (.const v) = v := fun _ => rfl
        have hfn : ∀ f, aq.eval (.func f) = .func (.func f) #[] #[] := fun _ => rfl
        clear hrest
        rcases iq with _ | _ | _ | _ | _ | _ | _ | _ | _ | _ | _ | _ | _ | _ | _ | _ | _ | _ | _ | _ | _ | _ | _ | iq
        · injection ho with ho
          subst ho
          clear hdep hgd
          refine ⟨fun _ => ⟨fun _ => ?_, fun h => absurd h (by decide)⟩, fun hw => (by simp [Region.wanted] at hw)⟩
          generalize aq.eval = ρ at *
          simp [go_sem, r6]
        · injection ho with ho
          subst ho
          clear hdep hgd
          refine ⟨fun _ => ⟨fun _ => ?_, fun h => absurd h (by decide)⟩, fun hw => (by simp [Region.wanted] at hw)⟩
          generalize aq.eval = ρ at *
          simp [go_sem, r2]
        · injection ho with ho
          subst ho
          have d1 : aq.eval (.tmp 58) = .pointer (some ⟨w.heap.size, 1, none⟩) := hdep ⟨1, .data⟩ (by simp) rfl _ _ rfl rfl
          clear hdep hgd
          refine ⟨fun _ => ⟨fun _ => ?_, fun h => absurd h (by decide)⟩, fun hw => (by simp [Region.wanted] at hw)⟩
          generalize aq.eval = ρ at *
          simp [go_sem, d1, q1]
        · injection ho with ho
          subst ho
          clear hdep hgd
          refine ⟨fun _ => ⟨fun _ => ?_, fun h => absurd h (by decide)⟩, fun hw => (by simp [Region.wanted] at hw)⟩
          generalize aq.eval = ρ at *
          simp [go_sem, r7]
        · injection ho with ho
          subst ho
          have d2 : aq.eval (.tmp 59) = .slice (some ⟨bl, offl, none⟩) ls.length c := hdep ⟨2, .data⟩ (by simp) rfl _ _ rfl rfl
          have d3 : aq.eval (.tmp 60) = .int .i64 (k : Int) := hdep ⟨3, .data⟩ (by simp) rfl _ _ rfl rfl
          clear hdep hgd
          refine ⟨fun _ => ⟨fun _ => ?_, fun h => absurd h (by decide)⟩, fun hw => (by simp [Region.wanted] at hw)⟩
          generalize aq.eval = ρ at *
          simp [go_sem, d2, d3, hk]
        · injection ho with ho
          subst ho
          have d4 : aq.eval (.tmp 61) = .pointer (some ⟨bl, offl + k * 4, none⟩) := hdep ⟨4, .data⟩ (by simp) rfl _ _ rfl rfl
          clear hdep hgd
          refine ⟨fun _ => ⟨fun _ => ?_, fun h => absurd h (by decide)⟩, fun hw => (by simp [Region.wanted] at hw)⟩
          generalize aq.eval = ρ at *
          simp [go_sem, d4]
        · injection ho with ho
          subst ho
          have d5 : aq.eval (.tmp 62) = .pointer (some ⟨bl, offl + k * 4 + 1, none⟩) := hdep ⟨5, .data⟩ (by simp) rfl _ _ rfl rfl
          clear hdep hgd
          refine ⟨fun _ => ⟨fun _ => ?_, fun h => absurd h (by decide)⟩, fun hw => (by simp [Region.wanted] at hw)⟩
          generalize aq.eval = ρ at *
          simp [go_sem, d5, fe]
        · injection ho with ho
          subst ho
          clear hdep hgd
          refine ⟨fun _ => ⟨fun _ => ?_, fun h => absurd h (by decide)⟩, fun hw => (by simp [Region.wanted] at hw)⟩
          generalize aq.eval = ρ at *
          simp [go_sem, r6]
        · injection ho with ho
          subst ho
          clear hdep hgd
          refine ⟨fun _ => ⟨fun _ => ?_, fun h => absurd h (by decide)⟩, fun hw => (by simp [Region.wanted] at hw)⟩
          generalize aq.eval = ρ at *
          simp [go_sem, r2]
        · injection ho with ho
          subst ho
          have d8 : aq.eval (.tmp 65) = .pointer (some ⟨w.heap.size, 1, none⟩) := hdep ⟨8, .data⟩ (by simp) rfl _ _ rfl rfl
          clear hdep hgd
          refine ⟨fun _ => ⟨fun _ => ?_, fun h => absurd h (by decide)⟩, fun hw => (by simp [Region.wanted] at hw)⟩
          generalize aq.eval = ρ at *
          simp [go_sem, d8, q1]
        · injection ho with ho
          subst ho
          clear hdep hgd
          refine ⟨fun _ => ⟨fun _ => ?_, fun h => absurd h (by decide)⟩, fun hw => (by simp [Region.wanted] at hw)⟩
          generalize aq.eval = ρ at *
          simp [go_sem, r7]
        · injection ho with ho
          subst ho
          have d9 : aq.eval (.tmp 66) = .slice (some ⟨bl, offl, none⟩) ls.length c := hdep ⟨9, .data⟩ (by simp) rfl _ _ rfl rfl
          have d10 : aq.eval (.tmp 67) = .int .i64 (k : Int) := hdep ⟨10, .data⟩ (by simp) rfl _ _ rfl rfl
          clear hdep hgd
          refine ⟨fun _ => ⟨fun _ => ?_, fun h => absurd h (by decide)⟩, fun hw => (by simp [Region.wanted] at hw)⟩
          generalize aq.eval = ρ at *
          simp [go_sem, d9, d10, hk]
        · injection ho with ho
          subst ho
          have d11 : aq.eval (.tmp 68) = .pointer (some ⟨bl, offl + k * 4, none⟩) := hdep ⟨11, .data⟩ (by simp) rfl _ _ rfl rfl
          clear hdep hgd
          refine ⟨fun _ => ⟨fun _ => ?_, fun h => absurd h (by decide)⟩, fun hw => (by simp [Region.wanted] at hw)⟩
          generalize aq.eval = ρ at *
          simp [go_sem, d11]
        · injection ho with ho
          subst ho
          have d12 : aq.eval (.tmp 69) = .pointer (some ⟨bl, offl + k * 4 + 1, none⟩) := hdep ⟨12, .data⟩ (by simp) rfl _ _ rfl rfl
          clear hdep hgd
          refine ⟨fun _ => ⟨fun _ => ?_, fun h => absurd h (by decide)⟩, fun hw => (by simp [Region.wanted] at hw)⟩
          generalize aq.eval = ρ at *
          simp [go_sem, d12, fe]
        · injection ho with ho
          subst ho
          have d7 : aq.eval (.tmp 64) = .slice (some ⟨w.heap.size + 1, 0, none⟩) n n := hdep ⟨7, .data⟩ (by simp) rfl _ _ rfl rfl
          have d13 : aq.eval (.tmp 70) = .int .i64 (g' : Int) := hdep ⟨13, .data⟩ (by simp) rfl _ _ rfl rfl
          clear hdep hgd
          refine ⟨fun _ => ⟨fun _ => ?_, fun h => absurd h (by decide)⟩, fun hw => (by simp [Region.wanted] at hw)⟩
          generalize aq.eval = ρ at *
          simp [go_sem, d7, d13, hgn]
        · injection ho with ho
          subst ho
          have d14 : aq.eval (.tmp 71) = .pointer (some ⟨w.heap.size + 1, g', none⟩) := hdep ⟨14, .data⟩ (by simp) rfl _ _ rfl rfl
          clear hdep hgd
          refine ⟨fun _ => ⟨fun _ => ?_, fun h => absurd h (by decide)⟩, fun hw => (by simp [Region.wanted] at hw)⟩
          generalize aq.eval = ρ at *
          simp [go_sem, d14, eo]
        · injection ho with ho
          subst ho
          clear hdep hgd
          refine ⟨fun _ => ⟨fun _ => ?_, fun h => absurd h (by decide)⟩, fun hw => (by simp [Region.wanted] at hw)⟩
          generalize aq.eval = ρ at *
          simp [go_sem, r1]
        · injection ho with ho
          subst ho
          clear hdep hgd
          refine ⟨fun _ => ⟨fun _ => ?_, fun h => absurd h (by decide)⟩, fun hw => (by simp [Region.wanted] at hw)⟩
          generalize aq.eval = ρ at *
          simp [go_sem, r7]
        · injection ho with ho
          subst ho
          have d16 : aq.eval (.tmp 73) = .slice (some ⟨bt, offt, none⟩) ls.length ct := hdep ⟨16, .data⟩ (by simp) rfl _ _ rfl rfl
          have d17 : aq.eval (.tmp 74) = .int .i64 (k : Int) := hdep ⟨17, .data⟩ (by simp) rfl _ _ rfl rfl
          clear hdep hgd
          refine ⟨fun _ => ⟨fun _ => ?_, fun h => absurd h (by decide)⟩, fun hw => (by simp [Region.wanted] at hw)⟩
          generalize aq.eval = ρ at *
          simp [go_sem, d16, d17, hk]
        · injection ho with ho
          subst ho
          have d18 : aq.eval (.tmp 75) = .pointer (some ⟨bt, offt + k, none⟩) := hdep ⟨18, .data⟩ (by simp) rfl _ _ rfl rfl
          clear hdep hgd
          refine ⟨fun _ => ⟨fun _ => ?_, fun h => absurd h (by decide)⟩, fun hw => (by simp [Region.wanted] at hw)⟩
          generalize aq.eval = ρ at *
          simp [go_sem, d18, et]
        · injection ho with ho
          subst ho
          have d15 : aq.eval (.tmp 72) = .int .i64 yv := hdep ⟨15, .data⟩ (by simp) rfl _ _ rfl rfl
          have d19 : aq.eval (.tmp 76) = .int .i64 tk := hdep ⟨19, .data⟩ (by simp) rfl _ _ rfl rfl
          clear hdep hgd
          refine ⟨fun _ => ⟨fun _ => ?_, fun h => absurd h (by decide)⟩, fun hw => (by simp [Region.wanted] at hw)⟩
          generalize aq.eval = ρ at *
          simp [go_sem, d15, d19, ew]
        · injection ho with ho
          subst ho
          have d0 : aq.eval (.tmp 57) = .slice (some ⟨w.heap.size + 1, 0, none⟩) n n := hdep ⟨0, .data⟩ (by simp) rfl _ _ rfl rfl
          have d6 : aq.eval (.tmp 63) = .int .i64 (g' : Int) := hdep ⟨6, .data⟩ (by simp) rfl _ _ rfl rfl
          clear hdep hgd
          refine ⟨fun _ => ⟨fun _ => ?_, fun h => absurd h (by decide)⟩, fun hw => (by simp [Region.wanted] at hw)⟩
          generalize aq.eval = ρ at *
          simp [go_sem, d0, d6, hgn]
        · injection ho with ho
          subst ho
          have d21 : aq.eval (.tmp 78) = .pointer (some ⟨w.heap.size + 1, g', none⟩) := hdep ⟨21, .data⟩ (by simp) rfl _ _ rfl rfl
          have d20 : aq.eval (.tmp 77) = .int .i64 (yv - tk) := hdep ⟨20, .data⟩ (by simp) rfl _ _ rfl rfl
          clear hdep hgd
          refine ⟨fun _ => ⟨fun h => absurd rfl h, fun _ => ?_⟩, fun hw => (by simp [Region.wanted] at hw)⟩
          generalize aq.eval = ρ at *
          simp [go_sem, d21, d20, eo, hfz]
        · simp at ho
      simp only [putAll, Act.put, List.setIfInBounds_toArray, List.set_cons_zero, List.set_cons_succ, Nat.reduceAdd]
      generalize wv.drew.setCell ⟨w.heap.size + 1, g', none⟩ (.int .i64 (yv - tk)) = wq at *
      go_wp2_with fail
      go_roundg g
      case measure => omega
      case rel => exact ⟨k + 1, by have := HG.out; omega, by go_num, by rw [← HST.out]; exact HR3.out, HB3.out, q3⟩
end Go.Proofs.Ytmojjfdamdgegaa
