/- Texts in one: CtI, CtJ, CtK. -/
import Derived.Test.YtkfhpefmmhljmaaGreatDoorR12
set_option linter.unusedVariables false
set_option linter.unusedSimpArgs false
set_option maxHeartbeats 16000000
set_option maxRecDepth 100000
namespace Go.Proofs.YtkfhpefmmhljmaaGreatDoor
open Go.RowKit
theorem zBy (r : Bytes) : Lib.hasPrefix (bstr r).data.toList [45] = isNeg r ∧ Lib.trimPrefix (bstr r).data.toList [45] = magn r := by
 have e : (bstr r).data.toList = r := rfl;rw [e];unfold Lib.trimPrefix Lib.hasPrefix magn isNeg;cases r with
 | nil => exact ⟨rfl, rfl⟩
 | cons a l =>
  by_cases h : a = 45
  ·subst h; simp
  ·have h' : (45 : UInt8) ≠ a := fun e => h e.symm
   have h2 : ((45 : UInt8) == a) = (a == 45) := by rw [βf h, βf h']
   simp [h, List.isPrefixOf];exact ⟨h2, h'⟩
theorem zBj (r : Bytes) : (magn r).length ≤ r.length := by
 unfold magn;split
 ·simp
 ·exact νr _
theorem nM {w : World} {base : Nat} {A : Option Addr} {c : Nat} {ws : List Int} (h : w.ownsRow base 192 1 (.slice A ws.length c) ws.length (ws.map wV)) : WrdR w w A ws := fun hn => by
 obtain ⟨g, cap, hv, hb, hg⟩ := h.form hn;injection hv with hA
 subst hA;refine ⟨g, 0, rfl, hg, fun i hi => ?_⟩;rw [Nat.zero_add, h.cellAt i (by omega)];simp [hi, wV]
theorem uX (l : Bytes) (h : ∀ x ∈ l, isDig x = true) : dval l < 10 ^ l.length := by
 refine xQ (P := fun l => (∀ x ∈ l, isDig x = true) → dval l < 10 ^ l.length) (fun _ => by decide) (fun l d ih h => ?_) l h;have h1 := ih fun x hx => h x (by simp [hx])
 have h2 := h d (by simp);unfold isDig at h2;simp only [κb, κe] at h2;rw [kB, κa, List.length_singleton, Nat.pow_succ];omega
def NumEE (w : World) (r : Int × Int) (e : Ending) (w' : World) : Prop := ∃ v, e = .returned (.tuple #[v, .int .i64 r.1]) ∧ NumR w' w' v r.2 ∧ Below w w w'
theorem NumEE.zero {w : World} {er : Int} {r : Int × Int} (h : r = (er, 0)) {W : World} (hb : Below w w W) : NumEE w r (.returned (.tuple #[.agg #[.bool false, .slice none 0 0], .int .i64 er])) W :=
 ⟨_, by rw [h], by rw [h]; exact NumR.zero _ _, hb⟩
theorem mK (r : Bytes) (w : World) (hl : r.length ≤ 1000000) : Calls Tryz.prog 162 #[.string (bstr r)] w (NumEE w (pz r)) := by
 have hcp := zBy r;have hle := zBj r;have K1 := fun W => Tryz.strings_CutPrefix (bstr r) ⟨#[45]⟩ W
 rw [show (⟨#[45]⟩ : ByteArray).data.toList = [45] from rfl, hcp.1, hcp.2] at K1;have K2 := η fun W => sX (magn r) W (by omega)
 have HB0 := η ((Below.refl w w).alloc (νr _) (.cells #[.bool false, .slice none 0 0] 83));have hsz := zO (magn r)
 change ∀ W, Calls _ _ _ W fun e w' => e = .returned (.tuple #[.string (bstr (magn r)), .bool (isNeg r)]) ∧ w' = W at K1
 have HK1 := η K1;clear K1;by_cases hlong : 1000 < (magn r).length
 ·have E : Hid (pz r = (5, 0)) := by show _ = _; unfold pz; rw [if_pos hlong]
  have e0 : decide ((1000 : Int) < ((magn r).length : Int)) = true := κt (by omega);clear hlong K2 hcp hle;generalize magn r = m at *;generalize isNeg r = ng at *;generalize bstr r = s at *;generalize bstr m = sm at *;go_enter Tryz.func162, Tryz.ntmps162;go_wp2_with fail;refine (HK1.out _).mono ?_;rintro e w1 ⟨rfl, rfl⟩;go_wp2_with fail;exact κr (v := .tuple #[.agg #[.bool false, .slice none 0 0], .int .i64 5]) (by simp [results, Tryz.results162, go_sem]) rfl (NumEE.zero E.out HB0.out)
 ·have e0 : decide ((1000 : Int) < ((magn r).length : Int)) = false := κf (by omega);cases hd : isDec (magn r) with
  | false =>
   have E : Hid (pz r = (3, 0)) := by show _ = _; unfold pz; rw [if_neg hlong, hd]; rfl
   rw [hd] at K2;clear hlong hcp hle hd;generalize magn r = m at *;generalize isNeg r = ng at *;generalize bstr r = s at *;generalize bstr m = sm at *;go_enter Tryz.func162, Tryz.ntmps162;go_wp2_with fail;refine (HK1.out _).mono ?_;rintro e w1 ⟨rfl, rfl⟩;go_wp2_with fail;refine (K2.out _).mono ?_;rintro e w2 ⟨rfl, hb2⟩;have q0 : w2.cell? ⟨w, 0, none⟩ = some (.bool false) := (hb2.cell (by simp)).trans (by simp);have q1 : w2.cell? ⟨w, 1, none⟩ = some (.slice none 0 0) := (hb2.cell (by simp)).trans (by simp);have s0 : w2.frozen? ⟨w, 0, none⟩ = false := (hb2.frozen (by simp)).trans (by simp);have s1 : w2.frozen? ⟨w, 1, none⟩ = false := (hb2.frozen (by simp)).trans (by simp);have HB2 := η (HB0.out.trans (hb2.mono (by simp)));clear hb2 HB0 K2 HK1;go_wp2_with fail;exact κr (v := .tuple #[.agg #[.bool false, .slice none 0 0], .int .i64 3]) (by simp [results, Tryz.results162, go_sem, q0, q1]) rfl (NumEE.zero E.out ((HB2.out.setCell (p := ⟨w, 0, none⟩) (νr _) _).setCell (p := ⟨w, 1, none⟩) (νr _) _))
  | true =>
   rw [hd] at K2;have hall : ∀ x ∈ magn r, isDig x = true := by
    unfold isDec at hd;simp only [κb] at hd;exact List.all_eq_true.1 hd.2
   have HALL := η hall;clear hall;have h48 : ((bstr (magn r)).toList == [48]) = (magn r == [48]) := by rw [qY]
   by_cases hz : isNeg r = true ∧ (magn r == [48]) = true
   ·have E : Hid (pz r = (3, 0)) := by show _ = _; unfold pz; rw [if_neg hlong, hd, hz.1, hz.2]; rfl
    rw [hz.2] at h48;rw [hz.1] at HK1;clear hlong hcp hle hd hz HALL;generalize magn r = m at *;generalize bstr r = s at *;generalize bstr m = sm at *;go_enter Tryz.func162, Tryz.ntmps162;go_wp2_with fail;refine (HK1.out _).mono ?_;rintro e w1 ⟨rfl, rfl⟩;go_wp2_with fail;refine (K2.out _).mono ?_;rintro e w2 ⟨rfl, hb2⟩;have q0 : w2.cell? ⟨w, 0, none⟩ = some (.bool false) := (hb2.cell (by simp)).trans (by simp);have q1 : w2.cell? ⟨w, 1, none⟩ = some (.slice none 0 0) := (hb2.cell (by simp)).trans (by simp);have s0 : w2.frozen? ⟨w, 0, none⟩ = false := (hb2.frozen (by simp)).trans (by simp);have s1 : w2.frozen? ⟨w, 1, none⟩ = false := (hb2.frozen (by simp)).trans (by simp);have HB2 := η (HB0.out.trans (hb2.mono (by simp)));clear hb2 HB0 K2 HK1;go_wp2_with fail;exact κr (v := .tuple #[.agg #[.bool false, .slice none 0 0], .int .i64 3]) (by simp [results, Tryz.results162, go_sem, q0, q1]) rfl (NumEE.zero E.out ((HB2.out.setCell (p := ⟨w, 0, none⟩) (νr _) _).setCell (p := ⟨w, 1, none⟩) (νr _) _))
   ·have hg : isNeg r = false ∨ (isNeg r = true ∧ (magn r == [48]) = false) := by
     cases h1 : isNeg r
     ·exact .inl rfl
     ·cases h2 : (magn r == [48])
      ·exact .inr ⟨rfl, rfl⟩
      ·exact absurd ⟨h1, h2⟩ hz
    have E : Hid (pz r = (0, sgnI (isNeg r) (dval (magn r) : Int))) := by
     show _ = _
     unfold pz;rw [if_neg hlong, hd];rcases hg with h | ⟨h1, h2⟩
     ·rw [h]; rfl
     ·rw [h1, h2]; rfl
    have hlen : (magn r).length ≤ 1000 := by omega
    clear hlong hcp hle hd hz;generalize hm : magn r = m at *;clear hm;generalize hn : isNeg r = ng at *;clear hn;generalize bstr r = s at *;have HM : ∀ (w2 : World), w2.cell? ⟨w, 0, none⟩ = some (.bool false) → w2.cell? ⟨w, 1, none⟩ = some (.slice none 0 0) → w2.frozen? ⟨w, 0, none⟩ = false → w2.frozen? ⟨w, 1, none⟩ = false → Below w w w2 → True := fun _ _ _ _ _ _ => trivial
    clear HM;rcases hg with rfl | ⟨rfl, h2⟩
    case' inr => rw [h2] at h48; clear h2; obtain ⟨NG, hNG⟩ : ∃ b, b = true := ⟨_, rfl⟩
    case' inl => clear h48; obtain ⟨NG, hNG⟩ : ∃ b, b = false := ⟨_, rfl⟩
    all_goals
     go_enter Tryz.func162, Tryz.ntmps162;go_wp2_with fail;refine (HK1.out _).mono ?_;rintro e w1 ⟨rfl, rfl⟩;go_wp2_with fail;refine (K2.out _).mono ?_;rintro e w2 ⟨rfl, hb2⟩;have q0 : w2.cell? ⟨w, 0, none⟩ = some (.bool false) := (hb2.cell (by simp)).trans (by simp);have q1 : w2.cell? ⟨w, 1, none⟩ = some (.slice none 0 0) := (hb2.cell (by simp)).trans (by simp);have s0 : w2.frozen? ⟨w, 0, none⟩ = false := (hb2.frozen (by simp)).trans (by simp);have s1 : w2.frozen? ⟨w, 1, none⟩ = false := (hb2.frozen (by simp)).trans (by simp);have HB2 := η (HB0.out.trans (hb2.mono (by simp)));have hlt : w + 1 ≤ w2.heap.size := World.block_lt_of_cell? w2 ⟨w, 0, none⟩ q0;clear hb2 HB0 K2 HK1;go_wp2_with fail;clear e0 hsz
     try clear h48
     go_loopg [4, 6] m.length (fun g s4 s6 wr => ∃ (done rest : Bytes) (v : Value) (ws : List Int), m = done ++ rest ∧ rest.length ≤ g ∧ s4 = .string (bstr rest) ∧ s6 = v ∧
      wr.ownsRow (w + 1) 192 1 v ws.length (ws.map wV) ∧ Words ws ∧ wv ws = (dval done : Int) ∧ ws.length ≤ done.length ∧ Below (w + 1) w2 wr)
     case atStart => exact ⟨[], m, .slice none 0 0, [], rfl, νr _, rfl, rfl, World.ownsRow_nil _ _ _ _, (fun x h => by cases h), rfl, νr _, Below.refl _ _⟩
     case round =>
      obtain ⟨done, rest, v, ws, hm, hrg, rfl, rfl, hrow, hws, hwv, hwl, hbw⟩ := hrel;have HWS := η hws;have HBW := η hbw;have HROW := η hrow;have HWV := η hwv;have HM := η hm;clear hws hwv hm;have HML : Hid (m.length = done.length + rest.length) := by show _ = _; rw [HM.out, κa]
      by_cases hr : rest.length = 0
      ·have e1 : decide ((0 : Int) < (rest.length : Int)) = false := κf (by omega);obtain rfl : rest = [] := List.eq_nil_of_length_eq_zero hr;have HE2 : Hid (pz r = (0, sgnI NG (wv ws))) := by show _ = _; rw [hNG, E.out, HWV.out, HM.out, κp]
       obtain ⟨A, c, rfl, hac⟩ := zQ hrow;subst hNG;have KB := η (fun ng => nB ng A c ws wr (nM hrow) (by have := HML.out; omega) hac HWS.out);have r0 : wr.cell? ⟨w, 0, none⟩ = some (.bool false) := (hbw.cell (by show w.heap.size < _; omega)).trans q0;have r1 : wr.cell? ⟨w, 1, none⟩ = some (.slice none 0 0) := (hbw.cell (by show w.heap.size < _; omega)).trans q1;have t0 : wr.frozen? ⟨w, 0, none⟩ = false := (hbw.frozen (by show w.heap.size < _; omega)).trans s0;have t1 : wr.frozen? ⟨w, 1, none⟩ = false := (hbw.frozen (by show w.heap.size < _; omega)).trans s1;have hlt2 := World.block_lt_of_cell? wr ⟨w, 0, none⟩ r0;clear hrow HROW hbw q0 q1 s0 s1 HALL;go_wp2_with fail;refine (KB.out _).mono ?_;rintro e w4 ⟨vz, rfl, hvz, hb4⟩;have u0 : w4.cell? ⟨w, 0, none⟩ = some (.bool false) := (hb4.cell hlt2).trans r0;have u1 : w4.cell? ⟨w, 1, none⟩ = some (.slice none 0 0) := (hb4.cell hlt2).trans r1;have v0 : w4.frozen? ⟨w, 0, none⟩ = false := (hb4.frozen hlt2).trans t0;have v1 : w4.frozen? ⟨w, 1, none⟩ = false := (hb4.frozen hlt2).trans t1;have HV := η hvz;obtain ⟨neg, A4, ws4, c4, rfl, hr4⟩ := hvz;have HB4 := η ((HB2.out.trans (HBW.out.mono (Nat.le_succ _))).trans (hb4.mono (by omega)));clear hr4 hb4 r0 r1 t0 t1 hlt2 KB;have HF := η ((HB4.out.setCell (p := ⟨w, 0, none⟩) (νr _) (.bool neg)).setCell (p := ⟨w, 1, none⟩) (νr _) (.slice A4 ws4.length c4));have HN := η ((HV.out.set u0 (by simp) (.bool neg)).set (p := ⟨w, 1, none⟩) (by rw [κo _ _ _ _ (by simp)]; exact u1) (by simp) (.slice A4 ws4.length c4));clear HV HB4;go_wp2_with fail;refine κr (v := .tuple #[.agg #[.bool neg, .slice A4 ws4.length c4], .int .i64 0]) (by simp [results, Tryz.results162, go_sem, u0, u1]) rfl ⟨_, by rw [HE2.out], ?_, HF.out⟩;rw [HE2.out, zN, zN];exact HN.out
      ·have e1 : decide ((0 : Int) < (rest.length : Int)) = true := κt (by omega);have hsz := zO rest;obtain ⟨n, hmin, hn9, hnr, hn0⟩ : ∃ n : Nat, min (9 : Int) (rest.length : Int) = (n : Int) ∧ n ≤ 9 ∧ n ≤ rest.length ∧ 0 < n := ⟨min 9 rest.length, by omega, by omega, by omega, by omega⟩;have hsl := aT rest n hnr;have hdg : ∀ k, k < rest.length → 48 ≤ (rest.getD k 0).toNat ∧ (rest.getD k 0).toNat ≤ 57 := fun k hk => nY (HALL.out _ (by rw [HM.out, zK rest k 0 hk]; exact List.mem_append_right _ (List.getElem_mem hk)))
       have HDG := η hdg;have hval : ∀ k, k ≤ n → dval (rest.take k) < 10 ^ k := fun k hk => by
        have := uX (rest.take k) (fun x hx => HALL.out x (by rw [HM.out]; exact List.mem_append_right _ (List.mem_of_mem_take hx)));rwa [κk, Nat.min_eq_left (by omega)] at this
       have HVAL := η hval;have hp9 : ∀ k, k ≤ n → (10 : Nat) ^ k ≤ 1000000000 := fun k hk => Nat.pow_le_pow_right (n := 10) (by decide) (show k ≤ 9 by omega)
       have HP := η hp9;clear hrow hbw q0 q1 s0 s1 hdg hval hp9;go_wp2_with fail;obtain ⟨wo, rfl⟩ : ∃ wo : World, wo = wr := ⟨_, rfl⟩;obtain ⟨gg, rfl⟩ : ∃ gg : Nat, gg = gk := ⟨_, rfl⟩;go_loopg [8, 9, 38] n (fun g s8 s9 s38 wx => ∃ k : Nat, k + g = n ∧ s38 = .int .i64 (k : Int) ∧ s8 = .int .u64 ((dval (rest.take k) : Nat) : Int) ∧ s9 = .int .u64 ((10 ^ k : Nat) : Int) ∧ wx = wo)
       case atStart => exact ⟨0, by omega, rfl, rfl, rfl, rfl⟩
       case round =>
        obtain ⟨k, hkg, rfl, rfl, rfl, rfl⟩ := hrel;cases gk with
        | zero =>
         obtain rfl : k = n := by omega
         clear hkg;have hv9 := HVAL.out k (νr _);have hp := HP.out k (νr _);have KS := η (rI (w + 1) u6 ws ((10 ^ k : Nat) : Int) ((dval (rest.take k) : Nat) : Int) wr HROW.out (Nat.le_trans hlt HBW.out.size) HWS.out ⟨Int.natCast_nonneg _, by omega⟩ ⟨Int.natCast_nonneg _, by omega⟩ (by have := HML.out; omega));have HSP := η (iV ((10 ^ k : Nat) : Int) (Int.natCast_nonneg _) (by omega) ws ((dval (rest.take k) : Nat) : Int) HWS.out (Int.natCast_nonneg _) (by omega));generalize hpp : ((10 ^ k : Nat) : Int) = pp at *;generalize hvv : ((dval (rest.take k) : Nat) : Int) = vv at *;have HPP := η hpp;have HVV := η hvv;clear hpp hvv hv9 hp;go_wp2_with fail;refine KS.out.mono ?_;rintro e w3 ⟨v', rfl, hrow3, hb3⟩;have HR3 := η hrow3;clear hrow3 KS;go_wp2_with fail;go_roundg (gg - 1)
         case measure => omega
         case rel =>
          refine ⟨done ++ rest.take k, rest.drop k, v', scL pp vv ws, by rw [κq, List.take_append_drop]; exact HM.out, by rw [List.length_drop]; omega, rfl, rfl, by rw [yY]; exact HR3.out, HSP.out.1, ?_, ?_, HBW.out.trans (hb3.mono (νr _))⟩
          ·rw [HSP.out.2, HWV.out, ← HPP.out, ← HVV.out, aH, κk, Nat.min_eq_left hnr];simp
          ·rw [yY, κa, κk, Nat.min_eq_left hnr];omega
        | succ g =>
         have hk : k < n := by omega
         have hkr : k < rest.length := by omega
         have hix := qA rest k hkr;have hdg := HDG.out k hkr;have hv9 := HVAL.out k (by omega);have hp := HP.out k (by omega);have HS : Hid (dval (rest.take (k + 1)) = dval (rest.take k) * 10 + ((rest.getD k 0).toNat - 48)) := by
          show _ = _
          rw [κs hkr, kB, zK rest k 0 hkr]
         have HG := η hkg;clear hkg;generalize hd : (rest.getD k 0).toNat = d at *;clear hd;have p1 : IntKind.u8.wrap ((d : Int) - 48) = (d : Int) - 48 := by show ((d : Int) - 48) % 256 = _; omega
         have p2 : IntKind.u64.wrap ((d : Int) - 48) = (d : Int) - 48 := κu _ (by omega);have p3 : IntKind.u64.wrap (((dval (rest.take k) : Nat) : Int) * 10) = ((dval (rest.take k) : Nat) : Int) * 10 := κu _ (by omega);have p4 : IntKind.u64.wrap (((dval (rest.take k) : Nat) : Int) * 10 + ((d : Int) - 48)) = ((dval (rest.take (k + 1)) : Nat) : Int) := by rw [κu _ (by omega), HS.out]; omega
         have p5 : IntKind.u64.wrap (((10 ^ k : Nat) : Int) * 10) = ((10 ^ (k + 1) : Nat) : Int) := by rw [κu _ (by omega), Nat.pow_succ]; omega
         clear hv9 hp;generalize ((dval (rest.take k) : Nat) : Int) = vk at *;generalize hvk1 : ((dval (rest.take (k + 1)) : Nat) : Int) = vk1 at *;have HVK := η hvk1;clear hvk1;generalize ((10 ^ k : Nat) : Int) = pk at *;generalize hpk1 : ((10 ^ (k + 1) : Nat) : Int) = pk1 at *;have HPK := η hpk1;clear hpk1;go_wp2_with fail;go_roundg g
         case measure => omega
         case rel => exact ⟨k + 1, by have := HG.out; omega, by go_num, by rw [HVK.out], by rw [HPK.out], rfl⟩
def FPE (w : World) (r : Int × Int) (e : Ending) (w' : World) : Prop := ∃ a0 a1, e = .returned (.tuple #[.agg #[a0, a1, .bool false, .slice none 0 0], .int .i64 r.1]) ∧ NumR w' w' (.agg #[a0, a1]) r.2 ∧ Below w w w'
def qW (w : World) : World := w.alloc (.cells #[.bool false, .slice none 0 0, .bool false, .slice none 0 0] 85)
theorem lG (w : World) : Below w w (qW w) := βA _
theorem eC (r : Bytes) (w : World) (hl : r.length ≤ 1000000) (hn : ∀ k, k < r.length → r.getD k 0 ≠ 47) : Calls Tryz.prog 97 #[.string (bstr r)] w (FPE w (pz r)) := by
 have K1 := η fun W => oZ r W hn hl
 have K2 := η fun W => mK r W hl
 have HB0 := η (lG w);unfold qW at HB0;clear hn;generalize pz r = pr at *;obtain ⟨er, n⟩ := pr;generalize bstr r = s at *;go_enter Tryz.func97, Tryz.ntmps97;go_wp2_with fail;refine (K1.out _).mono ?_;rintro e w1 ⟨rfl, hb1⟩;have q0 : w1.cell? ⟨w, 0, none⟩ = some (.bool false) := (hb1.cell (by simp)).trans (by simp);have q1 : w1.cell? ⟨w, 1, none⟩ = some (.slice none 0 0) := (hb1.cell (by simp)).trans (by simp);have q2 : w1.cell? ⟨w, 2, none⟩ = some (.bool false) := (hb1.cell (by simp)).trans (by simp);have q3 : w1.cell? ⟨w, 3, none⟩ = some (.slice none 0 0) := (hb1.cell (by simp)).trans (by simp);have s0 : w1.frozen? ⟨w, 0, none⟩ = false := (hb1.frozen (by simp)).trans (by simp);have s1 : w1.frozen? ⟨w, 1, none⟩ = false := (hb1.frozen (by simp)).trans (by simp);have s2 : w1.frozen? ⟨w, 2, none⟩ = false := (hb1.frozen (by simp)).trans (by simp);have s3 : w1.frozen? ⟨w, 3, none⟩ = false := (hb1.frozen (by simp)).trans (by simp);have HB1 := η (HB0.out.trans (hb1.mono (by simp)));clear hb1 HB0 K1;go_wp2_with fail;refine (K2.out _).mono ?_;rintro e w2 ⟨a, rfl, hv, hb2⟩;have hlt : w < w1.heap.size := World.block_lt_of_cell? w1 ⟨w, 0, none⟩ q0;have p0 : w2.cell? ⟨w, 0, none⟩ = some (.bool false) := (hb2.cell (p := ⟨w, 0, none⟩) hlt).trans q0;have p1 : w2.cell? ⟨w, 1, none⟩ = some (.slice none 0 0) := (hb2.cell (p := ⟨w, 1, none⟩) hlt).trans q1;have p2 : w2.cell? ⟨w, 2, none⟩ = some (.bool false) := (hb2.cell (p := ⟨w, 2, none⟩) hlt).trans q2;have p3 : w2.cell? ⟨w, 3, none⟩ = some (.slice none 0 0) := (hb2.cell (p := ⟨w, 3, none⟩) hlt).trans q3;have t0 : w2.frozen? ⟨w, 0, none⟩ = false := (hb2.frozen (p := ⟨w, 0, none⟩) hlt).trans s0;have t1 : w2.frozen? ⟨w, 1, none⟩ = false := (hb2.frozen (p := ⟨w, 1, none⟩) hlt).trans s1;have t2 : w2.frozen? ⟨w, 2, none⟩ = false := (hb2.frozen (p := ⟨w, 2, none⟩) hlt).trans s2;have t3 : w2.frozen? ⟨w, 3, none⟩ = false := (hb2.frozen (p := ⟨w, 3, none⟩) hlt).trans s3;have HB2 := βT HB1 hb2;have hlt2 : w < w2.heap.size := νl hlt hb2.size;have HV := η hv;clear q0 q1 q2 q3 s0 s1 s2 s3 hb2 K2 HB1;obtain ⟨neg, A, ws, c, rfl, hr⟩ := hv;clear hr;have HN := η ((((HV.out.set p0 (by simp) (.bool neg)).set (p := ⟨w, 1, none⟩) (by rw [κo _ _ _ _ (by simp)]; exact p1) (by simp) (.slice A ws.length c)).set (p := ⟨w, 2, none⟩) (by rw [κo _ _ _ _ (by simp), κo _ _ _ _ (by simp)]; exact p2) (by simp) (.bool false)).set (p := ⟨w, 3, none⟩) (by rw [κo _ _ _ _ (by simp), κo _ _ _ _ (by simp), κo _ _ _ _ (by simp)]; exact p3) (by simp) (.slice none 0 0));have HB3 := η ((((HB2.out.setCell (p := ⟨w, 0, none⟩) (νr _) (.bool neg)).setCell (p := ⟨w, 1, none⟩) (νr _) (.slice A ws.length c)).setCell (p := ⟨w, 2, none⟩) (νr _) (.bool false)).setCell (p := ⟨w, 3, none⟩) (νr _) (.slice none 0 0));go_wp2_with fail;refine κr (v := .tuple #[.agg #[.bool neg, .slice A ws.length c, .bool false, .slice none 0 0], .int .i64 er]) (by simp [results, Tryz.results97, go_sem, p0, p1, p2, p3, hlt2]) rfl ⟨_, _, rfl, ?_, HB3.out.alloc (by simp; omega) _⟩;have := HN.out;refine (this.alloc (by simp) _).more (by simp)
def tkV (k : Int) (t : ByteArray) (ng : Bool) (A : Option Addr) (l c : Nat) (ng' : Bool) (A' : Option Addr) (l' c' : Nat) : Value := .agg #[.int .u8 k, .string t, .bool ng, .slice A l c, .bool ng', .slice A' l' c']
def tkC (k : Int) (t : ByteArray) (ng : Bool) (A : Option Addr) (l c : Nat) (ng' : Bool) (A' : Option Addr) (l' c' : Nat) : List Value := [.int .u8 k, .string t, .bool ng, .slice A l c, .bool ng', .slice A' l' c']
theorem eT {k : Int} {t : ByteArray} {ng : Bool} {A : Option Addr} {l c : Nat} {ng' : Bool} {A' : Option Addr} {l' c' : Nat} : ∀ u ∈ tkC k t ng A l c ng' A' l' c', ∀ x, u ≠ .int .u32 x := by
 intro u hu x;simp only [tkC, List.mem_cons, List.mem_nil_iff, or_false] at hu;rcases hu with rfl | rfl | rfl | rfl | rfl | rfl <;> simp
def FracE (w : World) (e : Ending) (w' : World) : Prop := ∃ ng A l c ng' A' l' c' er, e = .returned (.tuple #[.agg #[.bool ng, .slice A l c, .bool ng', .slice A' l' c'], .int .i64 er]) ∧ Below w w w' ∧
 (er ≠ 0 ∧ er ≠ 8 ∨ er = 0 ∧ ∃ m d, NumR w' w' (.agg #[.bool ng, .slice A l c]) m ∧ NumR w' w' (.agg #[.bool ng', .slice A' l' c']) d ∧ d ≠ 0)
def bU : Prop := ∀ (r : Bytes) (w : World), r.length ≤ 65536 → r.any (· == 47) = true → Calls Tryz.prog 97 #[.string (bstr r)] w (FracE w)
def SlOk (s : Bytes) : Prop := s.any (· == 47) = true → bU
def NextP (r : Int × Tk × Int) (w : World) (k : Int) (t : ByteArray) (n1 n2 : Value) (nx er : Int) : Prop :=
 (r.1 ≠ -1 ∧ er = r.1 ∧ (r.1 = 0 → nx = r.2.2 ∧ k = zT r.2.1 ∧ t = bstr (qO r.2.1) ∧ NumR w w n1 (tkNum r.2.1) ∧ NumR w w n2 0)) ∨
 (r.1 = -1 ∧ (er ≠ 0 ∧ er ≠ 8 ∨ er = 0 ∧ k = 4 ∧ ∃ m d, NumR w w n1 m ∧ NumR w w n2 d ∧ d ≠ 0))
def NextE (r : Int × Tk × Int) (w : World) (e : Ending) (w' : World) : Prop := Below w w w' ∧ ∃ k t ng A l c ng' A' l' c' nx er, e = .returned (.tuple #[tkV k t ng A l c ng' A' l' c', .int .i64 nx, .int .i64 er]) ∧
 NextP r w' k t (.agg #[.bool ng, .slice A l c]) (.agg #[.bool ng', .slice A' l' c']) nx er
theorem NextP.map {r : Int × Tk × Int} {w w' : World} {k : Int} {t : ByteArray} {n1 n2 : Value} {nx er : Int} (h : NextP r w k t n1 n2 nx er) (hm : ∀ v n, NumR w w v n → NumR w' w' v n) : NextP r w' k t n1 n2 nx er := by
 rcases h with ⟨h1, h2, h3⟩ | ⟨h1, h2⟩
 ·exact .inl ⟨h1, h2, fun h0 => by obtain ⟨a, b, c, d, e⟩ := h3 h0; exact ⟨a, b, c, hm _ _ d, hm _ _ e⟩⟩
 ·refine .inr ⟨h1, h2.imp id ?_⟩;rintro ⟨a, b, m, d, c, e, f⟩;exact ⟨a, b, m, d, hm _ _ c, hm _ _ e, f⟩
theorem rW (r : Bytes) : (pz r).1 = 5 ∨ (pz r).1 = 3 ∨ (pz r).1 = 0 := by
 unfold pz;split
 ·exact .inl rfl
 ·split
  ·exact .inr (.inl rfl)
  ·exact .inr (.inr rfl)
theorem zCu (l : Bytes) (h : l.any (· == 47) = false) : ∀ k, k < l.length → l.getD k 0 ≠ 47 := by
 intro k hk e;rw [List.any_eq_false] at h;refine h (l.getD k 0) (by rw [zK l k 0 hk]; exact List.getElem_mem hk) (by rw [e]; rfl)
theorem NextE.err {r : Int × Tk × Int} {w W : World} {er : Int} (h : r.1 = er) (h0 : er ≠ 0) (h1 : er ≠ -1) (hb : Below w w W) :
  NextE r w (.returned (.tuple #[.agg #[.int .u8 0, .string ⟨#[]⟩, .bool false, .slice none 0 0, .bool false, .slice none 0 0], .int .i64 0, .int .i64 er])) W :=
 ⟨hb, 0, ⟨#[]⟩, false, none, 0, 0, false, none, 0, 0, 0, er, rfl, .inl ⟨by rw [h]; exact h1, h.symm, fun h2 => absurd (h.symm.trans h2) h0⟩⟩
theorem NextE.paren {r : Int × Tk × Int} {w W : World} {k nx : Int} (h : r.1 = 0) (hn : nx = r.2.2) (hk : k = zT r.2.1) (ht : qO r.2.1 = []) (hm : tkNum r.2.1 = 0) (hb : Below w w W) :
  NextE r w (.returned (.tuple #[.agg #[.int .u8 k, .string ⟨#[]⟩, .bool false, .slice none 0 0, .bool false, .slice none 0 0], .int .i64 nx, .int .i64 0])) W :=
 ⟨hb, k, ⟨#[]⟩, false, none, 0, 0, false, none, 0, 0, nx, 0, rfl, .inl ⟨by rw [h]; decide, h.symm, fun _ => ⟨hn, hk, by rw [ht]; rfl, by rw [hm]; exact NumR.zero _ _, NumR.zero _ _⟩⟩⟩
theorem NextE.word {r : Int × Tk × Int} {w W : World} {nx : Int} {t : ByteArray} (h : r.1 = 0) (hn : nx = r.2.2) (hk : zT r.2.1 = 3) (ht : t = bstr (qO r.2.1)) (hm : tkNum r.2.1 = 0) (hb : Below w w W) :
  NextE r w (.returned (.tuple #[.agg #[.int .u8 3, .string t, .bool false, .slice none 0 0, .bool false, .slice none 0 0], .int .i64 nx, .int .i64 0])) W :=
 ⟨hb, 3, t, false, none, 0, 0, false, none, 0, 0, nx, 0, rfl, .inl ⟨by rw [h]; decide, h.symm, fun _ => ⟨hn, hk.symm, ht, by rw [hm]; exact NumR.zero _ _, NumR.zero _ _⟩⟩⟩
theorem pD (s : Bytes) (i : Int) (w : World) (hs : SlOk s) (hi : -9223372036854775808 ≤ i ∧ i ≤ 9223372036854775807) (hl : s.length ≤ 1000000) : Calls Tryz.prog 41 #[.string (bstr s), .int .i64 i] w (NextE (nextT s i) w) := by
 have hsz := zO s;have HS := η hs;have HB0 := η ((Below.refl w w).alloc (νr _) (.cells #[.int .u8 0, .string ⟨#[]⟩, .bool false, .slice none 0 0, .bool false, .slice none 0 0] 87));clear hs;by_cases h1 : 65536 < s.length
 ·have e0 : decide ((65536 : Int) < (s.length : Int)) = true := κt (by omega);have E : Hid ((nextT s i).1 = 5) := by show _ = _; unfold nextT; rw [if_pos h1]
  clear h1;generalize bstr s = z at *;go_enter Tryz.func41, Tryz.ntmps41;go_wp2_with fail;exact κr (v := .tuple #[.agg #[.int .u8 0, .string ⟨#[]⟩, .bool false, .slice none 0 0, .bool false, .slice none 0 0], .int .i64 0, .int .i64 5]) (by simp [results, Tryz.results41, go_sem]) rfl (NextE.err E.out (by decide) (by decide) HB0.out)
 have e0 : decide ((65536 : Int) < (s.length : Int)) = false := κf (by omega);by_cases h2 : i < 0 ∨ (s.length : Int) < i
 ·have E : Hid ((nextT s i).1 = 1) := by show _ = _; unfold nextT; rw [if_neg h1, if_pos h2]
  have h2' : decide (i < 0) = true ∨ (decide (i < 0) = false ∧ decide ((s.length : Int) < i) = true) := by
   by_cases h : i < 0
   ·exact .inl (κt h)
   ·exact .inr ⟨κf h, κt (by omega)⟩
  clear h1 h2;generalize bstr s = z at *;rcases h2' with e1 | ⟨e1, e2⟩
  all_goals
   go_enter Tryz.func41, Tryz.ntmps41;go_wp2_with fail;exact κr (v := .tuple #[.agg #[.int .u8 0, .string ⟨#[]⟩, .bool false, .slice none 0 0, .bool false, .slice none 0 0], .int .i64 0, .int .i64 1]) (by simp [results, Tryz.results41, go_sem]) rfl (NextE.err E.out (by decide) (by decide) HB0.out)
 obtain ⟨n, rfl⟩ : ∃ n : Nat, i = (n : Int) := ⟨i.toNat, by omega⟩;have e1 : decide ((n : Int) < 0) = false := κf (by omega);have e2 : decide ((s.length : Int) < (n : Int)) = false := κf (by omega);have hns : n ≤ s.length := by omega
 have h65 : s.length ≤ 65536 := by omega
 have hN : nextT s (n : Int) = (if endF isSep s n = s.length then (8, .op, 0)
  else if s.getD (endF isSep s n) 0 = 40 then (0, .op, (endF isSep s n : Int) + 1)
  else if s.getD (endF isSep s n) 0 = 41 then (0, .cl, (endF isSep s n : Int) + 1)
  else if allB isLow (runAt s (endF isSep s n)) then (0, .wd (runAt s (endF isSep s n)), (endF isRun s (endF isSep s n) : Int))
  else if !allB isNum (runAt s (endF isSep s n)) then (3, .op, 0)
  else if (runAt s (endF isSep s n)).any (· == 47) then (-1, .op, 0)
  else if (pz (runAt s (endF isSep s n))).1 ≠ 0 then ((pz (runAt s (endF isSep s n))).1, .op, 0)
  else (0, .nm (pz (runAt s (endF isSep s n))).2, (endF isRun s (endF isSep s n) : Int))) := by
  unfold nextT;rw [if_neg h1, if_neg h2, Int.toNat_natCast]
 have K1 := η fun W => zCm W
 have K2 := η fun W => zAo s n W hns hl
 have hj := uG isSep s n hns;generalize endF isSep s n = j at *;unfold sepV at K1 K2;have HN := η hN;clear h1 h2 hN hi;generalize hnt : nextT s (n : Int) = r at *;have HR := η hnt;clear hnt;go_enter Tryz.func41, Tryz.ntmps41;go_wp2_with fail;refine (K1.out _).mono ?_;rintro e w1 ⟨rfl, hb1⟩;have HX1 := η ((Box.new w #[.int .u8 0, .string ⟨#[]⟩, .bool false, .slice none 0 0, .bool false, .slice none 0 0] 87).up hb1 (by simp));have HB1 := η (HB0.out.trans (hb1.mono (by simp)));clear hb1 HB0 K1;go_wp2_with fail;refine (K2.out _).mono ?_;rintro e w2 ⟨rfl, hb2⟩;have HX2 := η (HX1.out.up hb2 (HX1.out.lt (by decide)));have HB2 := βT HB1 hb2;clear hb2 HB1 HX1 K2;by_cases h3 : j = s.length
 ·have E : Hid (r.1 = 8) := by show _ = _; rw [HN.out, if_pos h3]
  have e3 : ((j : Int) == (s.length : Int)) = true := by rw [h3]; exact beq_self_eq_true _
  have q0 := HX2.out.c 0 _ rfl;have s0 := HX2.out.f 0 (by decide);have q1 := HX2.out.c 1 _ rfl;have s1 := HX2.out.f 1 (by decide);have q2 := HX2.out.c 2 _ rfl;have s2 := HX2.out.f 2 (by decide);have q3 := HX2.out.c 3 _ rfl;have s3 := HX2.out.f 3 (by decide);have q4 := HX2.out.c 4 _ rfl;have s4 := HX2.out.f 4 (by decide);have q5 := HX2.out.c 5 _ rfl;have s5 := HX2.out.f 5 (by decide);go_wp2_with fail;exact κr (v := .tuple #[.agg #[.int .u8 0, .string ⟨#[]⟩, .bool false, .slice none 0 0, .bool false, .slice none 0 0], .int .i64 0, .int .i64 8]) (by simp [results, Tryz.results41, go_sem, q0, q1, q2, q3, q4, q5]) rfl (NextE.err E.out (by decide) (by decide) (zD (b := w) HB2.out (νr _) [.int .u8 0, .string ⟨#[]⟩, .bool false, .slice none 0 0, .bool false, .slice none 0 0] 0))
 have e3 : ((j : Int) == (s.length : Int)) = false := βf (by omega);have hjs : j < s.length := by omega
 have hix := qA s j hjs;have u1 : (((s.getD j 0).toNat : Int) == 40) = (s.getD j 0 == 40) := u8_eq _ 40;have u2 : (((s.getD j 0).toNat : Int) == 41) = (s.getD j 0 == 41) := u8_eq _ 41;replace HN : Hid (r = _) := HN.out.trans (if_neg h3);have p1 : IntKind.i64.wrap ((j : Int) + 1) = (j : Int) + 1 := IntWalk.i64_in _ (by omega);by_cases h4 : s.getD j 0 = 40
 ·have E : Hid (r = (0, .op, (j : Int) + 1)) := by show _ = _; rw [HN.out, if_pos h4]
  have u1' : (((s.getD j 0).toNat : Int) == 40) = true := by rw [u1, h4]; rfl
  clear u1 u2 h4 HN;generalize ((s.getD j 0).toNat : Int) = cc at *;have q0 := HX2.out.c 0 _ rfl;have s0 := HX2.out.f 0 (by decide);have q1 := HX2.out.c 1 _ rfl;have s1 := HX2.out.f 1 (by decide);have q2 := HX2.out.c 2 _ rfl;have s2 := HX2.out.f 2 (by decide);have q3 := HX2.out.c 3 _ rfl;have s3 := HX2.out.f 3 (by decide);have q4 := HX2.out.c 4 _ rfl;have s4 := HX2.out.f 4 (by decide);have q5 := HX2.out.c 5 _ rfl;have s5 := HX2.out.f 5 (by decide);go_wp2_with fail;exact κr (v := .tuple #[.agg #[.int .u8 1, .string ⟨#[]⟩, .bool false, .slice none 0 0, .bool false, .slice none 0 0], .int .i64 ((j : Int) + 1), .int .i64 0]) (by simp [results, Tryz.results41, go_sem, q0, q1, q2, q3, q4, q5]) rfl (NextE.paren (by rw [E.out]) (by rw [E.out]) (by rw [E.out]; rfl) (by rw [E.out]; rfl) (by rw [E.out]; rfl) (zD (b := w) HB2.out (νr _) [.int .u8 1, .string ⟨#[]⟩, .bool false, .slice none 0 0, .bool false, .slice none 0 0] 0))
 have u1' : (((s.getD j 0).toNat : Int) == 40) = false := by rw [u1]; exact βf h4
 replace HN : Hid (r = _) := HN.out.trans (if_neg h4);by_cases h5 : s.getD j 0 = 41
 ·have E : Hid (r = (0, .cl, (j : Int) + 1)) := by show _ = _; rw [HN.out, if_pos h5]
  have u2' : (((s.getD j 0).toNat : Int) == 41) = true := by rw [u2, h5]; rfl
  clear u1 u2 h4 h5 HN;generalize ((s.getD j 0).toNat : Int) = cc at *;have q0 := HX2.out.c 0 _ rfl;have s0 := HX2.out.f 0 (by decide);have q1 := HX2.out.c 1 _ rfl;have s1 := HX2.out.f 1 (by decide);have q2 := HX2.out.c 2 _ rfl;have s2 := HX2.out.f 2 (by decide);have q3 := HX2.out.c 3 _ rfl;have s3 := HX2.out.f 3 (by decide);have q4 := HX2.out.c 4 _ rfl;have s4 := HX2.out.f 4 (by decide);have q5 := HX2.out.c 5 _ rfl;have s5 := HX2.out.f 5 (by decide);go_wp2_with fail;exact κr (v := .tuple #[.agg #[.int .u8 2, .string ⟨#[]⟩, .bool false, .slice none 0 0, .bool false, .slice none 0 0], .int .i64 ((j : Int) + 1), .int .i64 0]) (by simp [results, Tryz.results41, go_sem, q0, q1, q2, q3, q4, q5]) rfl (NextE.paren (by rw [E.out]) (by rw [E.out]) (by rw [E.out]; rfl) (by rw [E.out]; rfl) (by rw [E.out]; rfl) (zD (b := w) HB2.out (νr _) [.int .u8 2, .string ⟨#[]⟩, .bool false, .slice none 0 0, .bool false, .slice none 0 0] 0))
 have u2' : (((s.getD j 0).toNat : Int) == 41) = false := by rw [u2]; exact βf h5
 replace HN : Hid (r = _) := HN.out.trans (if_neg h5);clear u1 u2 h4 h5 p1;generalize ((s.getD j 0).toNat : Int) = cc at *;have K3 := η fun W => zCn W
 have K4 := η fun W => zAr s j W hj.2 hl
 have hm := uG isRun s j hj.2;have hra : runAt s j = (s.drop j).take (endF isRun s j - j) := rfl;generalize endF isRun s j = m at *;have hsl := zAf s j m hm.1 hm.2;rw [← hra] at hsl;have hrl : (runAt s j).length ≤ s.length := by rw [hra, κk, List.length_drop]; omega
 have hrs : ∀ x ∈ runAt s j, x ∈ s := fun x hx => by rw [hra] at hx; exact List.mem_of_mem_drop (List.mem_of_mem_take hx)
 generalize runAt s j = run at *;have HRS := η hrs;clear hra hrs;have K5 := η fun W => mO W
 have K6 := η fun W => pF run W (by omega)
 unfold runV at K3 K4;unfold lowV at K5 K6;go_wp2_with fail;refine (K3.out _).mono ?_;rintro e w3 ⟨rfl, hb3⟩;have HX3 := η (HX2.out.up hb3 (HX2.out.lt (by decide)));have HB3 := βT HB2 hb3;clear hb3 HB2 HX2 K3;go_wp2_with fail;refine (K4.out _).mono ?_;rintro e w4 ⟨rfl, hb4⟩;have HX4 := η (HX3.out.up hb4 (HX3.out.lt (by decide)));have HB4 := βT HB3 hb4;clear hb4 HB3 HX3 K4;go_wp2_with fail;refine (K5.out _).mono ?_;rintro e w5 ⟨rfl, hb5⟩;have HX5 := η (HX4.out.up hb5 (HX4.out.lt (by decide)));have HB5 := βT HB4 hb5;clear hb5 HB4 HX4 K5;go_wp2_with fail;refine (K6.out _).mono ?_;rintro e w6 ⟨rfl, hb6⟩;have HX6 := η (HX5.out.up hb6 (HX5.out.lt (by decide)));have HB6 := βT HB5 hb6;clear hb6 HB5 HX5 K6;cases h6 : allB isLow run with
 | true =>
  have E : Hid (r = (0, .wd run, (m : Int))) := by show _ = _; rw [HN.out, if_pos h6]
  clear h6 HN;have q0 := HX6.out.c 0 _ rfl;have s0 := HX6.out.f 0 (by decide);have q1 := HX6.out.c 1 _ rfl;have s1 := HX6.out.f 1 (by decide);have q2 := HX6.out.c 2 _ rfl;have s2 := HX6.out.f 2 (by decide);have q3 := HX6.out.c 3 _ rfl;have s3 := HX6.out.f 3 (by decide);have q4 := HX6.out.c 4 _ rfl;have s4 := HX6.out.f 4 (by decide);have q5 := HX6.out.c 5 _ rfl;have s5 := HX6.out.f 5 (by decide);go_wp2_with fail;exact κr (v := .tuple #[.agg #[.int .u8 3, .string (bstr run), .bool false, .slice none 0 0, .bool false, .slice none 0 0], .int .i64 (m : Int), .int .i64 0]) (by simp [results, Tryz.results41, go_sem, q0, q1, q2, q3, q4, q5]) rfl (NextE.word (by rw [E.out]) (by rw [E.out]) (by rw [E.out]; rfl) (by rw [E.out]; rfl) (by rw [E.out]; rfl) (zD (b := w) HB6.out (νr _) [.int .u8 3, .string (bstr run), .bool false, .slice none 0 0, .bool false, .slice none 0 0] 0))
 | false =>
  replace HN : Hid (r = _) := HN.out.trans (if_neg (by rw [h6]; simp));clear h6;have K7 := η fun W => wT W
  have K8 := η fun W => zBf run W (by omega)
  unfold numV at K7 K8;go_wp2_with fail;refine (K7.out _).mono ?_;rintro e w7 ⟨rfl, hb7⟩;have HX7 := η (HX6.out.up hb7 (HX6.out.lt (by decide)));have HB7 := βT HB6 hb7;clear hb7 HB6 HX6 K7;go_wp2_with fail;refine (K8.out _).mono ?_;rintro e w8 ⟨rfl, hb8⟩;have HX8 := η (HX7.out.up hb8 (HX7.out.lt (by decide)));have HB8 := βT HB7 hb8;clear hb8 HB7 HX7 K8;cases h7 : allB isNum run with
  | false =>
   have E : Hid (r.1 = 3) := by show _ = _; rw [HN.out, if_pos (by rw [h7]; rfl)]
   clear h7 HN;have q0 := HX8.out.c 0 _ rfl;have s0 := HX8.out.f 0 (by decide);have q1 := HX8.out.c 1 _ rfl;have s1 := HX8.out.f 1 (by decide);have q2 := HX8.out.c 2 _ rfl;have s2 := HX8.out.f 2 (by decide);have q3 := HX8.out.c 3 _ rfl;have s3 := HX8.out.f 3 (by decide);have q4 := HX8.out.c 4 _ rfl;have s4 := HX8.out.f 4 (by decide);have q5 := HX8.out.c 5 _ rfl;have s5 := HX8.out.f 5 (by decide);go_wp2_with fail;exact κr (v := .tuple #[.agg #[.int .u8 0, .string ⟨#[]⟩, .bool false, .slice none 0 0, .bool false, .slice none 0 0], .int .i64 0, .int .i64 3]) (by simp [results, Tryz.results41, go_sem, q0, q1, q2, q3, q4, q5]) rfl (NextE.err E.out (by decide) (by decide) (zD (b := w) HB8.out (νr _) [.int .u8 0, .string ⟨#[]⟩, .bool false, .slice none 0 0, .bool false, .slice none 0 0] 0))
  | true =>
   replace HN : Hid (r = _) := HN.out.trans (if_neg (by rw [h7]; simp));clear h7;have KF : Hid (∀ W, Calls Tryz.prog 97 #[.string (bstr run)] W fun e w' => ∃ ng A l c ng' A' l' c' er, e = .returned (.tuple #[.agg #[.bool ng, .slice A l c, .bool ng', .slice A' l' c'], .int .i64 er]) ∧ Below W W w' ∧
     (er ≠ 0 → (r.1 = er ∧ er ≠ -1) ∨ (r.1 = -1 ∧ er ≠ 8)) ∧ (er = 0 → NextP r w' 4 ⟨#[]⟩ (.agg #[.bool ng, .slice A l c]) (.agg #[.bool ng', .slice A' l' c']) m 0)) := by
    show ∀ W, _
    intro W;cases h8 : run.any (· == 47) with
    | true =>
     have E : r = (-1, .op, 0) := HN.out.trans (if_pos h8);have hF : bU := HS.out (by
      obtain ⟨x, hx, h9⟩ := List.any_eq_true.1 h8;exact List.any_eq_true.2 ⟨x, HRS.out x hx, h9⟩)
     refine (hF run W (by omega) h8).mono ?_;rintro e w' ⟨ng, A, l, c, ng', A', l', c', er, rfl, hb, hr⟩;refine ⟨ng, A, l, c, ng', A', l', c', er, rfl, hb, fun h0 => ?_, fun h0 => ?_⟩
     ·rcases hr with hr | hr
      ·exact .inr ⟨by rw [E], hr.2⟩
      ·exact absurd hr.1 h0
     ·rcases hr with hr | ⟨_, hr⟩
      ·exact absurd h0 hr.1
      ·exact .inr ⟨by rw [E], .inr ⟨rfl, rfl, hr⟩⟩
    | false =>
     have HN2 := HN.out.trans (if_neg (by rw [h8]; simp));refine (eC run W (by omega) (zCu run h8)).mono ?_;rintro e w' ⟨a0, a1, rfl, hn, hb⟩;have hn' := hn;obtain ⟨ng, A, ws, c, he, hn2⟩ := hn;injection he with he
     injection he with he
     injection he with ha0 he
     injection he with ha1 he
     subst ha0;subst ha1;refine ⟨ng, A, ws.length, c, false, none, 0, 0, (pz run).1, rfl, hb, fun h0 => ?_, fun h0 => ?_⟩
     ·left;rw [HN2, if_pos h0];refine ⟨rfl, ?_⟩;rcases rW run with h | h | h <;> rw [h] <;> decide
     ·left;rw [HN2, if_neg (fun h => h h0)];exact ⟨by show (0 : Int) ≠ -1; decide, rfl, fun _ => ⟨rfl, rfl, rfl, hn', NumR.zero _ _⟩⟩
   clear HN HRS HS HR;go_wp2_with fail;refine (KF.out _).mono ?_;rintro e w9 ⟨ng, A, l, c, ng', A', l', c', er, rfl, hb9, hne, heq⟩;have HX9 := η (HX8.out.up hb9 (HX8.out.lt (by decide)));have HB9 := βT HB8 hb9;have HNE := η hne;have HEQ := η heq;clear hb9 HB8 HX8 KF hne heq;have hlt9 : w < w9.heap.size := HX9.out.lt (by decide);have q0 := HX9.out.c 0 _ rfl;have s0 := HX9.out.f 0 (by decide);have q1 := HX9.out.c 1 _ rfl;have s1 := HX9.out.f 1 (by decide);have q2 := HX9.out.c 2 _ rfl;have s2 := HX9.out.f 2 (by decide);have q3 := HX9.out.c 3 _ rfl;have s3 := HX9.out.f 3 (by decide);have q4 := HX9.out.c 4 _ rfl;have s4 := HX9.out.f 4 (by decide);have q5 := HX9.out.c 5 _ rfl;have s5 := HX9.out.f 5 (by decide);by_cases h9 : er = 0
   ·subst h9;have HP := η (HEQ.out rfl);have HF := η ((zD (b := w) HB9.out (νr _) [.int .u8 4, .string ⟨#[]⟩, .bool ng, .slice A l c, .bool ng', .slice A' l' c'] 0).alloc (by rw [zE]; omega) (.cells #[.bool ng, .slice A l c, .bool ng', .slice A' l' c'] 85));clear HNE HEQ;go_wp2_with fail;refine κr (v := .tuple #[.agg #[.int .u8 4, .string ⟨#[]⟩, .bool ng, .slice A l c, .bool ng', .slice A' l' c'], .int .i64 (m : Int), .int .i64 0]) (by simp [results, Tryz.results41, go_sem, hlt9, q0, q1, q2, q3, q4, q5]) rfl ⟨HF.out, 4, ⟨#[]⟩, ng, A, l, c, ng', A', l', c', m, 0, rfl, ?_⟩;refine HP.out.map fun v n hv => ?_
    have := ((hv.sets (vs' := [.int .u8 4, .string ⟨#[]⟩, .bool ng, .slice A l c, .bool ng', .slice A' l' c']) HX9.out (eT) (νr _)).alloc (by rw [zE]; exact νr _) (.cells #[.bool ng, .slice A l c, .bool ng', .slice A' l' c'] 85));exact this.more (by simp)
   ·have e9 : (er == 0) = false := βf h9;have HP := η (HNE.out h9);have H9 := η h9;have HF := η ((zD (b := w) HB9.out (νr _) [.int .u8 0, .string ⟨#[]⟩, .bool false, .slice none 0 0, .bool false, .slice none 0 0] 0).alloc (by rw [zE]; omega) (.cells #[.bool ng, .slice A l c, .bool ng', .slice A' l' c'] 85));clear HNE HEQ h9;go_wp2_with fail;refine κr (v := .tuple #[.agg #[.int .u8 0, .string ⟨#[]⟩, .bool false, .slice none 0 0, .bool false, .slice none 0 0], .int .i64 0, .int .i64 er]) (by simp [results, Tryz.results41, go_sem, hlt9, q0, q1, q2, q3, q4, q5]) rfl ⟨HF.out, 0, ⟨#[]⟩, false, none, 0, 0, false, none, 0, 0, 0, er, rfl, ?_⟩;rcases HP.out with h | h
    ·exact .inl ⟨by rw [h.1]; exact h.2, h.1.symm, fun h2 => absurd (h.1.symm.trans h2) H9.out⟩
    ·exact .inr ⟨h.1, .inl ⟨H9.out, h.2⟩⟩
end Go.Proofs.YtkfhpefmmhljmaaGreatDoor
