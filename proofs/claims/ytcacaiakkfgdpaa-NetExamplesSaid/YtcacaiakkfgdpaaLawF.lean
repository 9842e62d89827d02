/- pylonref14.Strip. -/
import Derived.Test.YtcacaiakkfgdpaaAnyX
import Derived.Test.YtcacaiakkfgdpaaLawD
import Derived.Test.YtcacaiakkfgdpaaStrA
import Derived.Test.YtcacaiakkfgdpaaSvcP
import Derived.Deep.DeepCutAuto
namespace Go.Proofs.Ytcacaiakkfgdpaa
open Go.RowKit
set_option linter.unusedVariables false

def RStripE (w : World) (nb : Int) (ms : List Ln) (ks : List Int) (e : Ending) (w' : World) : Prop :=
  ∃ A c A2 c2, e = .returned (.tuple #[.agg #[.int .i64 nb, .slice A ms.length c], .slice A2 ks.length c2]) ∧ w'.ownsRow w.heap.size 51 4 (.slice A ms.length c) ms.length (lnCells ms) ∧
    w'.ownsRow w.heap.size 3 1 (.slice A2 ks.length c2) ks.length (ks.map (Value.int .i64)) ∧ Below w.heap.size w w'

structure StI (w1 : World) (nb : Int) (B k : Nat) (u : Value) (pre : List Ln) (done : Nat → Prop) (W : World) : Prop where
  below : Below w1.heap.size w1 W
  x0 : W.cell? ⟨B, 0, none⟩ = some (.int .i64 nb)
  x1 : ∃ x, W.cell? ⟨B, 1, none⟩ = some x
  z0 : W.frozen? ⟨B, 0, none⟩ = false
  z1 : W.frozen? ⟨B, 1, none⟩ = false
  size : B + 1 ≤ W.heap.size
  row : ¬ done 11 → W.cell? ⟨B, 1, none⟩ = some u ∧ W.ownsRow (B + 1) 51 4 u k (lnCells pre)
theorem StI.mono {w1 : World} {nb : Int} {B k : Nat} {u : Value} {pre : List Ln} {done done' : Nat → Prop} {W : World} (h : StI w1 nb B k u pre done W) (hd : done 11 → done' 11) : StI w1 nb B k u pre done' W :=
  ⟨h.below, h.x0, h.x1, h.z0, h.z1, h.size, fun hn => h.row fun h' => hn (hd h')⟩

def lnV (l : Ln) : List Value := [.int .i64 l.1, .int .i64 l.2.1, .int .i64 l.2.2.1, .int .i64 l.2.2.2]
def StF (A Ai : Option Addr) (m c n ci s B k bi offi bl offl j : Nat) (u : Value) (pre : List Ln) (l : Ln) (done : Nat → Prop) (i : Nat) (v : Value) (W : World) : Prop :=
  match i with
  | 0 => v = .pointer (some ⟨B, 1, none⟩)
  | 1 => v = u
  | 2 => v = .pointer (some ⟨s, 1, none⟩)
  | 3 => v = .slice A m c
  | 4 => v = .slice Ai n ci
  | 5 => v = .int .i64 (k : Int)
  | 6 => v = .pointer (some ⟨bi, offi + k, none⟩)
  | 7 => v = .int .i64 (j : Int)
  | 8 => v = .pointer (some ⟨bl, offl + j * 4, none⟩)
  | 9 => v = .agg #[.int .i64 l.1, .int .i64 l.2.1, .int .i64 l.2.2.1, .int .i64 l.2.2.2]
  | 10 => ¬ done 11 → ∃ b, v = .slice (some ⟨b, 0, none⟩) 1 1 ∧ Src W 4 (some ⟨b, 0, none⟩) 1 (lnV l)
  | 11 => W.ownsRow (B + 1) 51 4 v (k + 1) (lnCells (pre ++ [l]))
  | 12 => v = .pointer (some ⟨B, 1, none⟩)
  | 13 => ∃ v', W.cell? ⟨B, 1, none⟩ = some v' ∧ W.ownsRow (B + 1) 51 4 v' (k + 1) (lnCells (pre ++ [l]))
  | _ => True
section
variable {A Ai : Option Addr} {m c n ci s B k bi offi bl offl j : Nat} {u : Value} {pre : List Ln} {l : Ln} {done done' : Nat → Prop} {i : Nat} {v : Value} {W : World}
theorem StF.mono (h : StF A Ai m c n ci s B k bi offi bl offl j u pre l done i v W) (hd : done 11 → done' 11) : StF A Ai m c n ci s B k bi offi bl offl j u pre l done' i v W := by
  unfold StF at h ⊢
  split at h
  all_goals first
    | exact h
    | exact fun hn => h fun h' => hn (hd h')
end
theorem add_eq' (b off i : Nat) : (⟨b, off, none⟩ : Addr).add i = ⟨b, off + i, none⟩ := by unfold Addr.add; split <;> simp_all
theorem lnCells_snoc' (pre : List Ln) (l : Ln) : lnCells (pre ++ [l]) = lnCells pre ++ lnV l := by simp [lnCells, lnV]

set_option maxRecDepth 100000 in
set_option maxHeartbeats 8000000 in
theorem refstrip_any (nb : Int) (A A' : Option Addr) (c c' : Nat) (ls : List Ln) (out : List Int) (w : World) (hl : LinesR w w.heap.size A ls) (ho : IntsR w w.heap.size A' out) (hm : ls.length ≤ 1000000) (hn : out.length ≤ 1000000) :
    Calls Try.prog 38 #[.agg #[.int .i64 nb, .slice A ls.length c], .slice A' out.length c'] w (RStripE w nb (pick ls (notIn out ls.length)) (notIn out ls.length)) := by
  obtain ⟨j0, hj0, hy0, hy1, hy2⟩ := info_parts info_lineR
  have ki := fun W ho => refin_any (.int .i64 nb) A A' c c' ls.length out W ho hm hn
  have hle := notIn_le out ls.length
  have hsv : ∀ k, k < (notIn out ls.length).length → ∃ j : Nat, (notIn out ls.length).getD k 0 = (j : Int) ∧ j < ls.length := fun k hk => by
    have hmm := (mem_notIn out ls.length ((notIn out ls.length).getD k 0)).1 (by rw [getD_eq _ _ _ hk]; exact List.getElem_mem hk)
    exact ⟨((notIn out ls.length).getD k 0).toNat, by omega, by omega⟩
  generalize notIn out ls.length = sv at *
  have KI := Lib.hid ki
  have HSV := Lib.hid hsv
  have HL := Lib.hid hl
  have HO := Lib.hid ho
  clear ki hsv hl ho
  go_enter Try.func38, Try.ntmps38
  go_wp2_with fail
  have hb0 : Below w.heap.size w ((w.alloc (.cells #[.int .i64 nb, .slice A ls.length c] 24)).alloc (.cells #[.int .i64 0, .slice none 0 0] 24)) := below_alloc2 _ _ _
  refine (KI.out _ (HO.out.upto hb0)).mono ?_
  rintro e w1 ⟨v, rfl, hown, hb⟩
  have hz : w.heap.size + 2 ≤ w1.heap.size := by have := hb.size; simp at this; omega
  simp only [World.size_alloc] at hown hb
  obtain ⟨Ai, ci, rfl, hI⟩ := ownsRow_ints hown
  have q0 : w1.cell? ⟨w.heap.size, 0, none⟩ = some (.int .i64 nb) := (hb.cell (by show w.heap.size < _; omega)).trans (by simp)
  have q1 : w1.cell? ⟨w.heap.size, 1, none⟩ = some (.slice A ls.length c) := (hb.cell (by show w.heap.size < _; omega)).trans (by simp)
  have y0 : w1.cell? ⟨w.heap.size + 1, 0, none⟩ = some (.int .i64 0) := (hb.cell (by show w.heap.size + 1 < _; omega)).trans (by simp)
  have y1 : w1.cell? ⟨w.heap.size + 1, 1, none⟩ = some (.slice none 0 0) := (hb.cell (by show w.heap.size + 1 < _; omega)).trans (by simp)
  have z0 : w1.frozen? ⟨w.heap.size + 1, 0, none⟩ = false := (hb.frozen (by show w.heap.size + 1 < _; omega)).trans (by simp)
  have z1 : w1.frozen? ⟨w.heap.size + 1, 1, none⟩ = false := (hb.frozen (by show w.heap.size + 1 < _; omega)).trans (by simp)
  have hbt := hb0.trans (hb.mono (by omega))
  have HIi := Lib.hid hI
  have HOi := Lib.hid hown
  have HL1 := Lib.hid (HL.out.upto hbt)
  have HB1 := Lib.hid hbt
  have HQ := Lib.hid (And.intro q1 (And.intro y0 (And.intro y1 (And.intro z0 z1))))
  clear hown hI hb hb0 hbt HL HO KI q1 y0 y1 z0 z1
  go_wp2_with fail
  clear q0
  generalize hB : w1.heap.size = B at *
  go_loopg [8] sv.length (fun g i wr => ∃ k : Nat, k + g = sv.length ∧ i = .int .i64 k ∧ ∃ u, StI w1 nb B k u (pick ls (sv.take k)) (fun _ => False) wr)
  case atStart =>
    refine ⟨0, by omega, rfl, .slice none 0 0, (Below.refl _ _).alloc (Nat.le_refl _) _, ?_, ⟨.slice none 0 0, ?_⟩, ?_, ?_, ?_, fun _ => ⟨?_, World.ownsRow_nil _ _ _ _⟩⟩
    all_goals (subst hB; simp)
  case round =>
    obtain ⟨k, hkg, rfl, u, hst⟩ := hrel
    cases gk with
    | zero =>
      obtain rfl : k = sv.length := by omega
      clear hkg
      obtain ⟨x1, hown⟩ := hst.row id
      rw [List.take_length] at hown
      have hpl := pick_length ls sv
      rw [← hpl] at hown
      obtain ⟨Au, cu, rfl, _⟩ := ownsRow_linesR hown
      have x0 := hst.x0
      obtain ⟨q1, y0, y1, z0, z1⟩ := HQ.out
      have hbw := hst.below
      have hzz : w.heap.size + 1 < w1.heap.size := by omega
      replace y0 := (hbw.cell (p := ⟨w.heap.size + 1, 0, none⟩) hzz).trans y0
      replace y1 := (hbw.cell (p := ⟨w.heap.size + 1, 1, none⟩) hzz).trans y1
      replace z0 := (hbw.frozen (p := ⟨w.heap.size + 1, 0, none⟩) hzz).trans z0
      replace z1 := (hbw.frozen (p := ⟨w.heap.size + 1, 1, none⟩) hzz).trans z1
      have HOWN := Lib.hid hown
      have HBW := Lib.hid hbw
      have HOJ := Lib.hid (ownsRow_below HOi.out hbw)
      have hpl' : (pick ls sv).length ≤ 1000000 := by omega
      clear hown hbw hst HOi q1 hpl
      generalize pick ls sv = ms at *
      go_wp2_with fail
      have k0 : ((wr.setCell ⟨w.heap.size + 1, 0, none⟩ (.int .i64 nb)).setCell ⟨w.heap.size + 1, 1, none⟩ (.slice Au ms.length cu)).cell? ⟨w.heap.size + 1, 0, none⟩ = some (.int .i64 nb) := by
        rw [World.cell?_setCell_other _ _ _ _ (by simp)]
        exact World.cell?_setCell_same _ _ _ y0
      have k1 : ((wr.setCell ⟨w.heap.size + 1, 0, none⟩ (.int .i64 nb)).setCell ⟨w.heap.size + 1, 1, none⟩ (.slice Au ms.length cu)).cell? ⟨w.heap.size + 1, 1, none⟩ = some (.slice Au ms.length cu) := by
        refine World.cell?_setCell_same _ _ _ (u := .slice none 0 0) ?_
        rw [World.cell?_setCell_other _ _ _ _ (by simp)]
        exact y1
      have ko := ownsRow_base (base' := w.heap.size) (ownsRow_set (ownsRow_set HOWN.out (p := ⟨w.heap.size + 1, 0, none⟩) (by show w.heap.size + 1 < B + 1; omega) (.int .i64 nb)) (p := ⟨w.heap.size + 1, 1, none⟩) (by show w.heap.size + 1 < B + 1; omega) (.slice Au ms.length cu)) (by omega)
      have kj := ownsRow_base (base' := w.heap.size) (ownsRow_set (ownsRow_set HOJ.out (p := ⟨w.heap.size + 1, 0, none⟩) (by show w.heap.size + 1 < w.heap.size + 1 + 1; omega) (.int .i64 nb)) (p := ⟨w.heap.size + 1, 1, none⟩) (by show w.heap.size + 1 < w.heap.size + 1 + 1; omega) (.slice Au ms.length cu)) (by omega)
      have kb := ((HB1.out.trans (HBW.out.mono (by omega))).setCell (p := ⟨w.heap.size + 1, 0, none⟩) (by show w.heap.size ≤ w.heap.size + 1; omega) (.int .i64 nb)).setCell (p := ⟨w.heap.size + 1, 1, none⟩) (by show w.heap.size ≤ w.heap.size + 1; omega) (.slice Au ms.length cu)
      generalize (wr.setCell ⟨w.heap.size + 1, 0, none⟩ (.int .i64 nb)).setCell ⟨w.heap.size + 1, 1, none⟩ (.slice Au ms.length cu) = wz at *
      refine bodyPost_ret (v := .tuple #[.agg #[.int .i64 nb, .slice Au ms.length cu], .slice Ai sv.length ci]) (by simp [results, Try.results38, go_sem, k0, k1]) rfl ?_
      exact ⟨Au, cu, Ai, ci, rfl, ko, kj, kb⟩
    | succ g =>
      have hk : k < sv.length := by omega
      have HG := Lib.hid hkg
      clear hkg
      obtain ⟨bi, offi, rfl, hbi, hci⟩ := HIi.out (by omega)
      obtain ⟨j, hj1, hj⟩ := HSV.out k hk
      have ei := hci k hk
      rw [hj1] at ei
      obtain ⟨bl, offl, rfl, hbl, hcl⟩ := HL1.out (by omega)
      obtain ⟨f0, f1, f2, f3⟩ := hcl j hj
      have HTK := Lib.hid (show pick ls (sv.take (k + 1)) = pick ls (sv.take k) ++ [ls.getD j (0, 0, 0, 0)] by rw [List.take_succ_eq_append_getElem hk, pick_snoc, ← getD_eq _ _ 0 hk, hj1, Int.toNat_natCast])
      generalize ls.getD j (0, 0, 0, 0) = l at *
      generalize pick ls (sv.take k) = pre at *
      obtain ⟨q1, _⟩ := HQ.out
      have HST := Lib.hid hst
      have HC := Lib.hid (And.intro ei (And.intro f0 (And.intro f1 (And.intro f2 (And.intro f3 (And.intro q1 (And.intro hbi hbl)))))))
      clear hci hcl hj1 f0 f1 f2 f3 q1 ei hbi hbl hst
      go_wp2_with fail
      refine region_eachX (StF (some ⟨bl, offl, none⟩) (some ⟨bi, offi, none⟩) ls.length c sv.length ci w.heap.size B k bi offi bl offl j u pre l) (StI w1 nb B k u pre) (by kernel_rfl) (by kernel_rfl) (show StI w1 nb B k u pre (fun _ => False) wr.drew from ⟨HST.out.below.drew, HST.out.x0, HST.out.x1, HST.out.z0, HST.out.z1, HST.out.size, HST.out.row⟩) ?_ ?_
      · intro i o ho done a W hni hcl hI hdep hrest
        have r2 : a.eval (.tmp 2) = .pointer (some ⟨w.heap.size, 0, none⟩) := hrest 2 (apart_of (by kernel_rfl))
        have r6 : a.eval (.tmp 6) = .slice (some ⟨bi, offi, none⟩) sv.length ci := hrest 6 (apart_of (by kernel_rfl))
        have r7 : a.eval (.tmp 7) = .pointer (some ⟨B, 0, none⟩) := hrest 7 (apart_of (by kernel_rfl))
        have r8 : a.eval (.tmp 8) = .int .i64 (k : Int) := hrest 8 (apart_of (by kernel_rfl))
        clear hrest
        have hmI : StI w1 nb B k u pre (more done i) W := hI.mono .inr
        have hmF : ∀ (j' : Nat) (v : Value), done j' → StF (some ⟨bl, offl, none⟩) (some ⟨bi, offi, none⟩) ls.length c sv.length ci w.heap.size B k bi offi bl offl j u pre l done j' v W → StF (some ⟨bl, offl, none⟩) (some ⟨bi, offi, none⟩) ls.length c sv.length ci w.heap.size B k bi offi bl offl j u pre l (more done i) j' v W := fun j' v _ h => h.mono .inr
        rcases i with _ | _ | _ | _ | _ | _ | _ | _ | _ | _ | _ | _ | _ | _ | i
        · injection ho with ho
          subst ho
          refine ⟨fun _ K Q hK => wp_of_value (v := .pointer (some ⟨B, 1, none⟩)) ?_ (hK _ _ hmI rfl fun j' v hd _ h => hmF j' v hd h), fun hw => by simp [Region.wanted] at hw⟩
          clear hK hmF hmI hdep hI hcl hni
          generalize a.eval = ρ at *
          simp [go_sem, r7]
        · injection ho with ho
          subst ho
          have e0 : a.eval (.tmp 21) = .pointer (some ⟨B, 1, none⟩) := ((hdep ⟨0, .data⟩ (by simp) rfl).2 _ rfl).1 _ rfl
          have n11 : ¬ done 11 := fun hd => hni (hcl 11 _ rfl hd ⟨1, .data⟩ (by simp) rfl)
          have x1 := (hI.row n11).1
          refine ⟨fun _ K Q hK => wp_of_value (v := u) ?_ (hK _ _ hmI rfl fun j' v hd _ h => hmF j' v hd h), fun hw => by simp [Region.wanted] at hw⟩
          clear hK hmF hmI hdep hI hcl hni
          generalize a.eval = ρ at *
          simp [go_sem, e0, x1]
        · injection ho with ho
          subst ho
          refine ⟨fun _ K Q hK => wp_of_value (v := .pointer (some ⟨w.heap.size, 1, none⟩)) ?_ (hK _ _ hmI rfl fun j' v hd _ h => hmF j' v hd h), fun hw => by simp [Region.wanted] at hw⟩
          clear hK hmF hmI hdep hI hcl hni
          generalize a.eval = ρ at *
          simp [go_sem, r2]
        · injection ho with ho
          subst ho
          have e2 : a.eval (.tmp 23) = .pointer (some ⟨w.heap.size, 1, none⟩) := ((hdep ⟨2, .data⟩ (by simp) rfl).2 _ rfl).1 _ rfl
          have x1 := (hI.below.cell (p := ⟨w.heap.size, 1, none⟩) (by show w.heap.size < w1.heap.size; omega)).trans HC.out.2.2.2.2.2.1
          refine ⟨fun _ K Q hK => wp_of_value (v := .slice (some ⟨bl, offl, none⟩) ls.length c) ?_ (hK _ _ hmI rfl fun j' v hd _ h => hmF j' v hd h), fun hw => by simp [Region.wanted] at hw⟩
          clear hK hmF hmI hdep hI hcl hni
          generalize a.eval = ρ at *
          simp [go_sem, e2, x1]
        · injection ho with ho
          subst ho
          refine ⟨fun _ K Q hK => wp_of_value (v := .slice (some ⟨bi, offi, none⟩) sv.length ci) ?_ (hK _ _ hmI rfl fun j' v hd _ h => hmF j' v hd h), fun hw => by simp [Region.wanted] at hw⟩
          clear hK hmF hmI hdep hI hcl hni
          generalize a.eval = ρ at *
          simp [go_sem, r6]
        · injection ho with ho
          subst ho
          refine ⟨fun _ K Q hK => wp_of_value (v := .int .i64 (k : Int)) ?_ (hK _ _ hmI rfl fun j' v hd _ h => hmF j' v hd h), fun hw => by simp [Region.wanted] at hw⟩
          clear hK hmF hmI hdep hI hcl hni
          generalize a.eval = ρ at *
          simp [go_sem, r8]
        · injection ho with ho
          subst ho
          have e4 : a.eval (.tmp 25) = .slice (some ⟨bi, offi, none⟩) sv.length ci := ((hdep ⟨4, .data⟩ (by simp) rfl).2 _ rfl).1 _ rfl
          have e5 : a.eval (.tmp 26) = .int .i64 (k : Int) := ((hdep ⟨5, .data⟩ (by simp) rfl).2 _ rfl).1 _ rfl
          refine ⟨fun _ K Q hK => wp_of_value (v := .pointer (some ⟨bi, offi + k, none⟩)) ?_ (hK _ _ hmI rfl fun j' v hd _ h => hmF j' v hd h), fun hw => by simp [Region.wanted] at hw⟩
          clear hK hmF hmI hdep hI hcl hni
          generalize a.eval = ρ at *
          simp [go_sem, e4, e5, hk]
        · injection ho with ho
          subst ho
          have e6 : a.eval (.tmp 27) = .pointer (some ⟨bi, offi + k, none⟩) := ((hdep ⟨6, .data⟩ (by simp) rfl).2 _ rfl).1 _ rfl
          have x1 := (hI.below.cell (p := ⟨bi, offi + k, none⟩) (by have := HC.out.2.2.2.2.2.2.1; rw [hB]; exact this)).trans HC.out.1
          refine ⟨fun _ K Q hK => wp_of_value (v := .int .i64 (j : Int)) ?_ (hK _ _ hmI rfl fun j' v hd _ h => hmF j' v hd h), fun hw => by simp [Region.wanted] at hw⟩
          clear hK hmF hmI hdep hI hcl hni
          generalize a.eval = ρ at *
          simp [go_sem, e6, x1]
        · injection ho with ho
          subst ho
          have e3 : a.eval (.tmp 24) = .slice (some ⟨bl, offl, none⟩) ls.length c := ((hdep ⟨3, .data⟩ (by simp) rfl).2 _ rfl).1 _ rfl
          have e7 : a.eval (.tmp 28) = .int .i64 (j : Int) := ((hdep ⟨7, .data⟩ (by simp) rfl).2 _ rfl).1 _ rfl
          refine ⟨fun _ K Q hK => wp_of_value (v := .pointer (some ⟨bl, offl + j * 4, none⟩)) ?_ (hK _ _ hmI rfl fun j' v hd _ h => hmF j' v hd h), fun hw => by simp [Region.wanted] at hw⟩
          clear hK hmF hmI hdep hI hcl hni
          generalize a.eval = ρ at *
          simp [go_sem, e3, e7, hj]
        · injection ho with ho
          subst ho
          have e8 : a.eval (.tmp 29) = .pointer (some ⟨bl, offl + j * 4, none⟩) := ((hdep ⟨8, .data⟩ (by simp) rfl).2 _ rfl).1 _ rfl
          have x0 := (hI.below.cell (p := ⟨bl, offl + j * 4, none⟩) (by have := HC.out.2.2.2.2.2.2.2; rw [hB]; exact this)).trans HC.out.2.1
          have x1 := (hI.below.cell (p := ⟨bl, offl + j * 4 + 1, none⟩) (by have := HC.out.2.2.2.2.2.2.2; rw [hB]; exact this)).trans HC.out.2.2.1
          have x2 := (hI.below.cell (p := ⟨bl, offl + j * 4 + 2, none⟩) (by have := HC.out.2.2.2.2.2.2.2; rw [hB]; exact this)).trans HC.out.2.2.2.1
          have x3 := (hI.below.cell (p := ⟨bl, offl + j * 4 + 3, none⟩) (by have := HC.out.2.2.2.2.2.2.2; rw [hB]; exact this)).trans HC.out.2.2.2.2.1
          refine ⟨fun _ K Q hK => wp_of_value (v := .agg #[.int .i64 l.1, .int .i64 l.2.1, .int .i64 l.2.2.1, .int .i64 l.2.2.2]) ?_ (hK _ _ hmI rfl fun j' v hd _ h => hmF j' v hd h), fun hw => by simp [Region.wanted] at hw⟩
          clear hK hmF hmI hdep hI hcl hni
          generalize a.eval = ρ at *
          simp [go_sem, e8, x0, x1, x2, x3]
        · injection ho with ho
          subst ho
          have e9 : a.eval (.tmp 30) = .agg #[.int .i64 l.1, .int .i64 l.2.1, .int .i64 l.2.2.1, .int .i64 l.2.2.2] := ((hdep ⟨9, .data⟩ (by simp) rfl).2 _ rfl).1 _ rfl
          have n11 : ¬ done 11 := fun hd => hni (hcl 11 _ rfl hd ⟨10, .data⟩ (by simp) rfl)
          refine ⟨fun _ K Q hK => wp_of_value (v := .slice (some ⟨W.heap.size, 0, none⟩) 1 1) (w' := W.alloc (.cells #[.int .i64 l.1, .int .i64 l.2.1, .int .i64 l.2.2.1, .int .i64 l.2.2.2] 51)) ?_ (hK _ _ ?_ ?_ ?_), fun hw => by simp [Region.wanted] at hw⟩
          · clear hK hmF hmI hdep hI hcl hni
            generalize a.eval = ρ at *
            simp [go_sem, e9]
          · have hb : Below W.heap.size W (W.alloc (.cells #[.int .i64 l.1, .int .i64 l.2.1, .int .i64 l.2.2.1, .int .i64 l.2.2.2] 51)) := (Below.refl _ _).alloc (Nat.le_refl _) _
            have hlt : B < W.heap.size := hI.size
            obtain ⟨xx, hxx⟩ := hI.x1
            exact ⟨hI.below.trans (hb.mono hI.below.size), (hb.cell (p := ⟨B, 0, none⟩) hlt).trans hI.x0, ⟨xx, (hb.cell (p := ⟨B, 1, none⟩) hlt).trans hxx⟩, (hb.frozen (p := ⟨B, 0, none⟩) hlt).trans hI.z0, (hb.frozen (p := ⟨B, 1, none⟩) hlt).trans hI.z1, Nat.le_trans hI.size hb.size, fun _ => ⟨(hb.cell (p := ⟨B, 1, none⟩) hlt).trans (hI.row n11).1, ownsRow_below (hI.row n11).2 hb⟩⟩
          · intro _
            refine ⟨_, rfl, by simp [lnV], fun _ => ⟨_, rfl, fun j' v hv => ?_⟩⟩
            have hjl : j' < 4 := by have := (List.getElem?_eq_some_iff.1 hv).1; simpa [lnV] using this
            rw [add_eq', cell_alloc_at _ _ _ _ _ rfl, Nat.zero_add]
            rcases (by omega : j' = 0 ∨ j' = 1 ∨ j' = 2 ∨ j' = 3) with rfl | rfl | rfl | rfl <;> simpa [lnV] using hv
          · intro j' v hd _ h
            rcases j' with _ | _ | _ | _ | _ | _ | _ | _ | _ | _ | _ | _ | _ | _ | j'
            · exact h
            · exact h
            · exact h
            · exact h
            · exact h
            · exact h
            · exact h
            · exact h
            · exact h
            · exact h
            · exact absurd hd hni
            · exact absurd hd n11
            · exact h
            · exact absurd (hcl 13 _ rfl hd ⟨11, .data⟩ (by simp) rfl) n11
            · trivial
        · injection ho with ho
          subst ho
          have e1 : a.eval (.tmp 22) = u := ((hdep ⟨1, .data⟩ (by simp) rfl).2 _ rfl).1 _ rfl
          obtain ⟨b, e10, hsrc⟩ := (((hdep ⟨10, .data⟩ (by simp) rfl).2 _ rfl).1 _ rfl : StF _ _ _ _ _ _ _ _ _ _ _ _ _ _ _ _ _ done 10 (a.eval (.tmp 31)) W) hni
          obtain ⟨hx1, hown⟩ := hI.row hni
          refine ⟨fun _ K Q hK => ?_, fun hw => by simp [Region.wanted] at hw⟩
          refine wp_append_any W (.tmp 22) (.tmp 31) _ rfl (B + 1) 51 j0 _ 4 32 Try.underlying22 hj0 hy0 hy1 hy2 rfl (by omega) u k (lnCells pre) e1 hown (some ⟨b, 0, none⟩) 1 1 (lnV l) e10 hsrc (by simp [lnV, Value.oneCell']) (by simp only [maxLen]; omega) (by omega) hI.size ?_
          intro v w' hown' hg _
          have hb1 : Below (B + 1) W w' := (Below.refl _ _).grown hg hI.size (fun j ej => (hown.lt j ej).1)
          have hlt : B < B + 1 := by omega
          obtain ⟨xx, hxx⟩ := hI.x1
          refine hK v w' ⟨hI.below.trans (hb1.mono (by omega)), (hb1.cell (p := ⟨B, 0, none⟩) hlt).trans hI.x0, ⟨xx, (hb1.cell (p := ⟨B, 1, none⟩) hlt).trans hxx⟩, (hb1.frozen (p := ⟨B, 0, none⟩) hlt).trans hI.z0, (hb1.frozen (p := ⟨B, 1, none⟩) hlt).trans hI.z1, Nat.le_trans hI.size hb1.size, fun h => absurd (.inl rfl) h⟩ (by show w'.ownsRow _ _ _ _ _ _; rw [lnCells_snoc']; exact hown') ?_
          intro j' v hd _ h
          rcases j' with _ | _ | _ | _ | _ | _ | _ | _ | _ | _ | _ | _ | _ | _ | j'
          · exact h
          · exact h
          · exact h
          · exact h
          · exact h
          · exact h
          · exact h
          · exact h
          · exact h
          · exact h
          · exact fun h => absurd (.inl rfl) h
          · exact absurd hd hni
          · exact h
          · exact absurd (hcl 13 _ rfl hd ⟨11, .data⟩ (by simp) rfl) hni
          · trivial
        · injection ho with ho
          subst ho
          refine ⟨fun _ K Q hK => wp_of_value (v := .pointer (some ⟨B, 1, none⟩)) ?_ (hK _ _ hmI rfl fun j' v hd _ h => hmF j' v hd h), fun hw => by simp [Region.wanted] at hw⟩
          clear hK hmF hmI hdep hI hcl hni
          generalize a.eval = ρ at *
          simp [go_sem, r7]
        · injection ho with ho
          subst ho
          have e12 : a.eval (.tmp 33) = .pointer (some ⟨B, 1, none⟩) := ((hdep ⟨12, .data⟩ (by simp) rfl).2 _ rfl).1 _ rfl
          have e11 : StF _ _ _ _ _ _ _ B k _ _ _ _ _ u pre l done 11 (a.eval (.tmp 32)) W := ((hdep ⟨11, .data⟩ (by simp) rfl).2 _ rfl).1 _ rfl
          have d11 : done 11 := (hdep ⟨11, .data⟩ (by simp) rfl).1
          have e11' : W.ownsRow (B + 1) 51 4 (a.eval (.tmp 32)) (k + 1) (lnCells (pre ++ [l])) := e11
          obtain ⟨v', hv'⟩ : ∃ v', a.eval (.tmp 32) = v' := ⟨_, rfl⟩
          rw [hv'] at e11'
          obtain ⟨xx, hxx⟩ := hI.x1
          have z1 := hI.z1
          refine ⟨fun _ K Q hK => wp_of_skip (w' := W.setCell ⟨B, 1, none⟩ v') ?_ (hK _ _ ?_ ?_ ?_), fun hw => by simp [Region.wanted] at hw⟩
          · rcases e11'.2 with ⟨rfl, _⟩ | ⟨g', cap', cur', rfl, _⟩
            all_goals (clear hK hmF hmI hdep hI hcl hni e11 e11'; generalize a.eval = ρ at *; simp [go_sem, e12, hv', hxx, z1])
          · refine ⟨hI.below.setCell (p := ⟨B, 1, none⟩) (by show w1.heap.size ≤ B; omega) _, ?_, ⟨v', World.cell?_setCell_same _ _ _ hxx⟩, ?_, ?_, ?_, fun h => absurd (.inr d11) h⟩
            · rw [World.cell?_setCell_other _ _ _ _ (by simp)]; exact hI.x0
            · rw [World.frozen?_setCell]; exact hI.z0
            · rw [World.frozen?_setCell]; exact hI.z1
            · simpa using hI.size
          · exact ⟨v', World.cell?_setCell_same _ _ _ hxx, ownsRow_set e11' (p := ⟨B, 1, none⟩) (by show B < B + 1; omega) _⟩
          · intro j' v hd _ h
            rcases j' with _ | _ | _ | _ | _ | _ | _ | _ | _ | _ | _ | _ | _ | _ | j'
            · exact h
            · exact h
            · exact h
            · exact h
            · exact h
            · exact h
            · exact h
            · exact h
            · exact h
            · exact h
            · exact fun h => absurd (.inr d11) h
            · exact ownsRow_set h (p := ⟨B, 1, none⟩) (by show B < B + 1; omega) _
            · exact h
            · exact absurd hd hni
            · trivial
        · simp at ho
      · intro done vs w3 hall hI hF
        obtain ⟨v', hx1, hown⟩ := hF 13 (by decide)
        have HST' := Lib.hid (show StI w1 nb B (k + 1) v' (pick ls (sv.take (k + 1))) (fun _ => False) w3 by rw [HTK.out]; exact ⟨hI.below, hI.x0, hI.x1, hI.z0, hI.z1, hI.size, fun _ => ⟨hx1, hown⟩⟩)
        clear hF hI hown hx1
        simp only [putAll, Act.put, List.setIfInBounds_toArray, List.set_cons_zero, List.set_cons_succ, Nat.reduceAdd]
        go_wp2_with fail
        go_roundg g
        case measure => omega
        case rel => exact ⟨k + 1, by have := HG.out; omega, by go_num, v', HST'.out⟩
end Go.Proofs.Ytcacaiakkfgdpaa
