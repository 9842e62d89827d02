/- Texts in one: CtI, CtJ. -/
import Derived.Test.YtkfhpefmmhljmaaGreatDoorF19
set_option linter.unusedVariables false
set_option linter.unusedSimpArgs false
set_option maxHeartbeats 16000000
set_option maxRecDepth 100000
namespace Go.Proofs.YtkfhpefmmhljmaaGreatDoor
open Go.RowKit
theorem lR (r : Bytes) : Lib.hasPrefix (bstr r).data.toList [45] = isNeg r ∧ Lib.trimPrefix (bstr r).data.toList [45] = magn r := by
 have e : (bstr r).data.toList = r := rfl;rw [e];unfold Lib.trimPrefix Lib.hasPrefix magn isNeg;cases r with
 | nil => exact ⟨rfl, rfl⟩
 | cons a l =>
  by_cases h : a = 45
  ·subst h; simp
  ·have h' : (45 : UInt8) ≠ a := fun e => h e.symm
   have h2 : ((45 : UInt8) == a) = (a == 45) := by rw [βf h, βf h']
   simp [h, List.isPrefixOf];exact ⟨h2, h'⟩
theorem lA (r : Bytes) : (magn r).length ≤ r.length := by
 unfold magn;split
 ·simp
 ·exact νr _
theorem cU {w : World} {base : Nat} {A : Option Addr} {c : Nat} {ws : List Int} (h : w.ownsRow base 192 1 (.slice A ws.length c) ws.length (ws.map wV)) : WrdR w w A ws := fun hn => by
 obtain ⟨g, cap, hv, hb, hg⟩ := h.form hn;injection hv with hA
 subst hA;refine ⟨g, 0, rfl, hg, fun i hi => ?_⟩;rw [Nat.zero_add, h.cellAt i (by omega)];simp [hi, wV]
theorem pJ (l : Bytes) (h : ∀ x ∈ l, isDig x = true) : dval l < 10 ^ l.length := by
 refine xQ (P := fun l => (∀ x ∈ l, isDig x = true) → dval l < 10 ^ l.length) (fun _ => by decide) (fun l d ih h => ?_) l h;have h1 := ih fun x hx => h x (by simp [hx])
 have h2 := h d (by simp);unfold isDig at h2;simp only [κb, κe] at h2;rw [kZ, κa, List.length_singleton, Nat.pow_succ];omega
def NumEE (w : World) (r : Int × Int) (e : Ending) (w' : World) : Prop := ∃ v, e = .returned (.tuple #[v, .int .i64 r.1]) ∧ NumR w' w' v r.2 ∧ Below w w w'
theorem NumEE.zero {w : World} {er : Int} {r : Int × Int} (h : r = (er, 0)) {W : World} (hb : Below w w W) : NumEE w r (.returned (.tuple #[.agg #[.bool false, .slice none 0 0], .int .i64 er])) W :=
 ⟨_, by rw [h], by rw [h]; exact NumR.zero _ _, hb⟩
theorem cT (r : Bytes) (w : World) (hl : r.length ≤ 1000000) : Calls Tryz.prog 162 #[.string (bstr r)] w (NumEE w (pz r)) := by
 have hcp := lR r;have hle := lA r;have K1 := fun W => Tryz.strings_CutPrefix (bstr r) ⟨#[45]⟩ W
 rw [show (⟨#[45]⟩ : ByteArray).data.toList = [45] from rfl, hcp.1, hcp.2] at K1;have K2 := η fun W => eJ (magn r) W (by omega)
 have HB0 := η ((Below.refl w w).alloc (νr _) (.cells #[.bool false, .slice none 0 0] 83));have hsz := zQ (magn r)
 change ∀ W, Calls _ _ _ W fun e w' => e = .returned (.tuple #[.string (bstr (magn r)), .bool (isNeg r)]) ∧ w' = W at K1
 have HK1 := η K1;clear K1;by_cases hlong : 1000 < (magn r).length
 ·have E : Hid (pz r = (5, 0)) := by show _ = _; unfold pz; rw [if_pos hlong]
  have e0 : decide ((1000 : Int) < ((magn r).length : Int)) = true := κt (by omega);clear hlong K2 hcp hle;generalize magn r = m at *;generalize isNeg r = ng at *;generalize bstr r = s at *;generalize bstr m = sm at *;go_enter Tryz.func162, Tryz.ntmps162;go_wp2_with fail;refine (HK1.out _).mono ?_;rintro e w1 ⟨rfl, rfl⟩;go_wp2_with fail;exact κr (v := .tuple #[.agg #[.bool false, .slice none 0 0], .int .i64 5]) (by simp [results, Tryz.results162, go_sem]) rfl (NumEE.zero E.out HB0.out)
 ·have e0 : decide ((1000 : Int) < ((magn r).length : Int)) = false := κf (by omega);cases hd : isDec (magn r) with
  | false =>
   have E : Hid (pz r = (3, 0)) := by show _ = _; unfold pz; rw [if_neg hlong, hd]; rfl
   rw [hd] at K2;clear hlong hcp hle hd;generalize magn r = m at *;generalize isNeg r = ng at *;generalize bstr r = s at *;generalize bstr m = sm at *;go_enter Tryz.func162, Tryz.ntmps162;go_wp2_with fail;refine (HK1.out _).mono ?_;rintro e w1 ⟨rfl, rfl⟩;go_wp2_with fail;refine (K2.out _).mono ?_;rintro e w2 ⟨rfl, hb2⟩;have q0 : w2.cell? ⟨w, 0, none⟩ = some (.bool false) := (hb2.cell (by simp)).trans (by simp);have q1 : w2.cell? ⟨w, 1, none⟩ = some (.slice none 0 0) := (hb2.cell (by simp)).trans (by simp);have s0 : w2.frozen? ⟨w, 0, none⟩ = false := (hb2.frozen (by simp)).trans (by simp);have s1 : w2.frozen? ⟨w, 1, none⟩ = false := (hb2.frozen (by simp)).trans (by simp);have HB2 := η (HB0.out.trans (hb2.mono (by simp)));clear hb2 HB0 K2 HK1;go_wp2_with fail;exact κr (v := .tuple #[.agg #[.bool false, .slice none 0 0], .int .i64 3]) (by simp [results, Tryz.results162, go_sem, q0, q1]) rfl (NumEE.zero E.out ((HB2.out.setCell (p := ⟨w, 0, none⟩) (νr _) _).setCell (p := ⟨w, 1, none⟩) (νr _) _))
  | true =>
   rw [hd] at K2;have hall : ∀ x ∈ magn r, isDig x = true := by
    unfold isDec at hd;simp only [κb] at hd;exact List.all_eq_true.1 hd.2
   have HALL := η hall;clear hall;have h48 : ((bstr (magn r)).toList == [48]) = (magn r == [48]) := by rw [qB]
   by_cases hz : isNeg r = true ∧ (magn r == [48]) = true
   ·have E : Hid (pz r = (3, 0)) := by show _ = _; unfold pz; rw [if_neg hlong, hd, hz.1, hz.2]; rfl
    rw [hz.2] at h48;rw [hz.1] at HK1;clear hlong hcp hle hd hz HALL;generalize magn r = m at *;generalize bstr r = s at *;generalize bstr m = sm at *;go_enter Tryz.func162, Tryz.ntmps162;go_wp2_with fail;refine (HK1.out _).mono ?_;rintro e w1 ⟨rfl, rfl⟩;go_wp2_with fail;refine (K2.out _).mono ?_;rintro e w2 ⟨rfl, hb2⟩;have q0 : w2.cell? ⟨w, 0, none⟩ = some (.bool false) := (hb2.cell (by simp)).trans (by simp);have q1 : w2.cell? ⟨w, 1, none⟩ = some (.slice none 0 0) := (hb2.cell (by simp)).trans (by simp);have s0 : w2.frozen? ⟨w, 0, none⟩ = false := (hb2.frozen (by simp)).trans (by simp);have s1 : w2.frozen? ⟨w, 1, none⟩ = false := (hb2.frozen (by simp)).trans (by simp);have HB2 := η (HB0.out.trans (hb2.mono (by simp)));clear hb2 HB0 K2 HK1;go_wp2_with fail;exact κr (v := .tuple #[.agg #[.bool false, .slice none 0 0], .int .i64 3]) (by simp [results, Tryz.results162, go_sem, q0, q1]) rfl (NumEE.zero E.out ((HB2.out.setCell (p := ⟨w, 0, none⟩) (νr _) _).setCell (p := ⟨w, 1, none⟩) (νr _) _))
   ·have hg : isNeg r = false ∨ (isNeg r = true ∧ (magn r == [48]) = false) := by
     cases h1 : isNeg r
     ·exact .inl rfl
     ·cases h2 : (magn r == [48])
      ·exact .inr ⟨rfl, rfl⟩
      ·exact absurd ⟨h1, h2⟩ hz
    have E : Hid (pz r = (0, sgnI (isNeg r) (dval (magn r) : Int))) := by
     show _ = _
     unfold pz;rw [if_neg hlong, hd];rcases hg with h | ⟨h1, h2⟩
     ·rw [h]; rfl
     ·rw [h1, h2]; rfl
    have hlen : (magn r).length ≤ 1000 := by omega
    clear hlong hcp hle hd hz;generalize hm : magn r = m at *;clear hm;generalize hn : isNeg r = ng at *;clear hn;generalize bstr r = s at *;have HM : ∀ (w2 : World), w2.cell? ⟨w, 0, none⟩ = some (.bool false) → w2.cell? ⟨w, 1, none⟩ = some (.slice none 0 0) → w2.frozen? ⟨w, 0, none⟩ = false → w2.frozen? ⟨w, 1, none⟩ = false → Below w w w2 → True := fun _ _ _ _ _ _ => trivial
    clear HM;rcases hg with rfl | ⟨rfl, h2⟩
    case' inr => rw [h2] at h48; clear h2; obtain ⟨NG, hNG⟩ : ∃ b, b = true := ⟨_, rfl⟩
    case' inl => clear h48; obtain ⟨NG, hNG⟩ : ∃ b, b = false := ⟨_, rfl⟩
    all_goals
     go_enter Tryz.func162, Tryz.ntmps162;go_wp2_with fail;refine (HK1.out _).mono ?_;rintro e w1 ⟨rfl, rfl⟩;go_wp2_with fail;refine (K2.out _).mono ?_;rintro e w2 ⟨rfl, hb2⟩;have q0 : w2.cell? ⟨w, 0, none⟩ = some (.bool false) := (hb2.cell (by simp)).trans (by simp);have q1 : w2.cell? ⟨w, 1, none⟩ = some (.slice none 0 0) := (hb2.cell (by simp)).trans (by simp);have s0 : w2.frozen? ⟨w, 0, none⟩ = false := (hb2.frozen (by simp)).trans (by simp);have s1 : w2.frozen? ⟨w, 1, none⟩ = false := (hb2.frozen (by simp)).trans (by simp);have HB2 := η (HB0.out.trans (hb2.mono (by simp)));have hlt : w + 1 ≤ w2.heap.size := World.block_lt_of_cell? w2 ⟨w, 0, none⟩ q0;clear hb2 HB0 K2 HK1;go_wp2_with fail;clear e0 hsz
     try clear h48
     go_loopg [4, 6] m.length (fun g s4 s6 wr => ∃ (done rest : Bytes) (v : Value) (ws : List Int), m = done ++ rest ∧ rest.length ≤ g ∧ s4 = .string (bstr rest) ∧ s6 = v ∧
      wr.ownsRow (w + 1) 192 1 v ws.length (ws.map wV) ∧ Words ws ∧ wv ws = (dval done : Int) ∧ ws.length ≤ done.length ∧ Below (w + 1) w2 wr)
     case atStart => exact ⟨[], m, .slice none 0 0, [], rfl, νr _, rfl, rfl, World.ownsRow_nil _ _ _ _, (fun x h => by cases h), rfl, νr _, Below.refl _ _⟩
     case round =>
      obtain ⟨done, rest, v, ws, hm, hrg, rfl, rfl, hrow, hws, hwv, hwl, hbw⟩ := hrel;have HWS := η hws;have HBW := η hbw;have HROW := η hrow;have HWV := η hwv;have HM := η hm;clear hws hwv hm;have HML : Hid (m.length = done.length + rest.length) := by show _ = _; rw [HM.out, κa]
      by_cases hr : rest.length = 0
      ·have e1 : decide ((0 : Int) < (rest.length : Int)) = false := κf (by omega);obtain rfl : rest = [] := List.eq_nil_of_length_eq_zero hr;have HE2 : Hid (pz r = (0, sgnI NG (wv ws))) := by show _ = _; rw [hNG, E.out, HWV.out, HM.out, κp]
       obtain ⟨A, c, rfl, hac⟩ := zR hrow;subst hNG;have KB := η (fun ng => rA ng A c ws wr (cU hrow) (by have := HML.out; omega) hac HWS.out);have r0 : wr.cell? ⟨w, 0, none⟩ = some (.bool false) := (hbw.cell (by show w.heap.size < _; omega)).trans q0;have r1 : wr.cell? ⟨w, 1, none⟩ = some (.slice none 0 0) := (hbw.cell (by show w.heap.size < _; omega)).trans q1;have t0 : wr.frozen? ⟨w, 0, none⟩ = false := (hbw.frozen (by show w.heap.size < _; omega)).trans s0;have t1 : wr.frozen? ⟨w, 1, none⟩ = false := (hbw.frozen (by show w.heap.size < _; omega)).trans s1;have hlt2 := World.block_lt_of_cell? wr ⟨w, 0, none⟩ r0;clear hrow HROW hbw q0 q1 s0 s1 HALL;go_wp2_with fail;refine (KB.out _).mono ?_;rintro e w4 ⟨vz, rfl, hvz, hb4⟩;have u0 : w4.cell? ⟨w, 0, none⟩ = some (.bool false) := (hb4.cell hlt2).trans r0;have u1 : w4.cell? ⟨w, 1, none⟩ = some (.slice none 0 0) := (hb4.cell hlt2).trans r1;have v0 : w4.frozen? ⟨w, 0, none⟩ = false := (hb4.frozen hlt2).trans t0;have v1 : w4.frozen? ⟨w, 1, none⟩ = false := (hb4.frozen hlt2).trans t1;have HV := η hvz;obtain ⟨neg, A4, ws4, c4, rfl, hr4⟩ := hvz;have HB4 := η ((HB2.out.trans (HBW.out.mono (Nat.le_succ _))).trans (hb4.mono (by omega)));clear hr4 hb4 r0 r1 t0 t1 hlt2 KB;have HF := η ((HB4.out.setCell (p := ⟨w, 0, none⟩) (νr _) (.bool neg)).setCell (p := ⟨w, 1, none⟩) (νr _) (.slice A4 ws4.length c4));have HN := η ((HV.out.set u0 (by simp) (.bool neg)).set (p := ⟨w, 1, none⟩) (by rw [κo _ _ _ _ (by simp)]; exact u1) (by simp) (.slice A4 ws4.length c4));clear HV HB4;go_wp2_with fail;refine κr (v := .tuple #[.agg #[.bool neg, .slice A4 ws4.length c4], .int .i64 0]) (by simp [results, Tryz.results162, go_sem, u0, u1]) rfl ⟨_, by rw [HE2.out], ?_, HF.out⟩;rw [HE2.out, nG, nG];exact HN.out
      ·have e1 : decide ((0 : Int) < (rest.length : Int)) = true := κt (by omega);have hsz := zQ rest;obtain ⟨n, hmin, hn9, hnr, hn0⟩ : ∃ n : Nat, min (9 : Int) (rest.length : Int) = (n : Int) ∧ n ≤ 9 ∧ n ≤ rest.length ∧ 0 < n := ⟨min 9 rest.length, by omega, by omega, by omega, by omega⟩;have hsl := rL rest n hnr;have hdg : ∀ k, k < rest.length → 48 ≤ (rest.getD k 0).toNat ∧ (rest.getD k 0).toNat ≤ 57 := fun k hk => mH (HALL.out _ (by rw [HM.out, zM rest k 0 hk]; exact List.mem_append_right _ (List.getElem_mem hk)))
       have HDG := η hdg;have hval : ∀ k, k ≤ n → dval (rest.take k) < 10 ^ k := fun k hk => by
        have := pJ (rest.take k) (fun x hx => HALL.out x (by rw [HM.out]; exact List.mem_append_right _ (List.mem_of_mem_take hx)));rwa [κk, Nat.min_eq_left (by omega)] at this
       have HVAL := η hval;have hp9 : ∀ k, k ≤ n → (10 : Nat) ^ k ≤ 1000000000 := fun k hk => Nat.pow_le_pow_right (n := 10) (by decide) (show k ≤ 9 by omega)
       have HP := η hp9;clear hrow hbw q0 q1 s0 s1 hdg hval hp9;go_wp2_with fail;obtain ⟨wo, rfl⟩ : ∃ wo : World, wo = wr := ⟨_, rfl⟩;obtain ⟨gg, rfl⟩ : ∃ gg : Nat, gg = gk := ⟨_, rfl⟩;go_loopg [8, 9, 38] n (fun g s8 s9 s38 wx => ∃ k : Nat, k + g = n ∧ s38 = .int .i64 (k : Int) ∧ s8 = .int .u64 ((dval (rest.take k) : Nat) : Int) ∧ s9 = .int .u64 ((10 ^ k : Nat) : Int) ∧ wx = wo)
       case atStart => exact ⟨0, by omega, rfl, rfl, rfl, rfl⟩
       case round =>
        obtain ⟨k, hkg, rfl, rfl, rfl, rfl⟩ := hrel;cases gk with
        | zero =>
         obtain rfl : k = n := by omega
         clear hkg;have hv9 := HVAL.out k (νr _);have hp := HP.out k (νr _);have KS := η (bY (w + 1) u6 ws ((10 ^ k : Nat) : Int) ((dval (rest.take k) : Nat) : Int) wr HROW.out (Nat.le_trans hlt HBW.out.size) HWS.out ⟨Int.natCast_nonneg _, by omega⟩ ⟨Int.natCast_nonneg _, by omega⟩ (by have := HML.out; omega));have HSP := η (rU ((10 ^ k : Nat) : Int) (Int.natCast_nonneg _) (by omega) ws ((dval (rest.take k) : Nat) : Int) HWS.out (Int.natCast_nonneg _) (by omega));generalize hpp : ((10 ^ k : Nat) : Int) = pp at *;generalize hvv : ((dval (rest.take k) : Nat) : Int) = vv at *;have HPP := η hpp;have HVV := η hvv;clear hpp hvv hv9 hp;go_wp2_with fail;refine KS.out.mono ?_;rintro e w3 ⟨v', rfl, hrow3, hb3⟩;have HR3 := η hrow3;clear hrow3 KS;go_wp2_with fail;go_roundg (gg - 1)
         case measure => omega
         case rel =>
          refine ⟨done ++ rest.take k, rest.drop k, v', scL pp vv ws, by rw [κq, List.take_append_drop]; exact HM.out, by rw [List.length_drop]; omega, rfl, rfl, by rw [gM]; exact HR3.out, HSP.out.1, ?_, ?_, HBW.out.trans (hb3.mono (νr _))⟩
          ·rw [HSP.out.2, HWV.out, ← HPP.out, ← HVV.out, mP, κk, Nat.min_eq_left hnr];simp
          ·rw [gM, κa, κk, Nat.min_eq_left hnr];omega
        | succ g =>
         have hk : k < n := by omega
         have hkr : k < rest.length := by omega
         have hix := qA rest k hkr;have hdg := HDG.out k hkr;have hv9 := HVAL.out k (by omega);have hp := HP.out k (by omega);have HS : Hid (dval (rest.take (k + 1)) = dval (rest.take k) * 10 + ((rest.getD k 0).toNat - 48)) := by
          show _ = _
          rw [κs hkr, kZ, zM rest k 0 hkr]
         have HG := η hkg;clear hkg;generalize hd : (rest.getD k 0).toNat = d at *;clear hd;have p1 : IntKind.u8.wrap ((d : Int) - 48) = (d : Int) - 48 := by show ((d : Int) - 48) % 256 = _; omega
         have p2 : IntKind.u64.wrap ((d : Int) - 48) = (d : Int) - 48 := κu _ (by omega);have p3 : IntKind.u64.wrap (((dval (rest.take k) : Nat) : Int) * 10) = ((dval (rest.take k) : Nat) : Int) * 10 := κu _ (by omega);have p4 : IntKind.u64.wrap (((dval (rest.take k) : Nat) : Int) * 10 + ((d : Int) - 48)) = ((dval (rest.take (k + 1)) : Nat) : Int) := by rw [κu _ (by omega), HS.out]; omega
         have p5 : IntKind.u64.wrap (((10 ^ k : Nat) : Int) * 10) = ((10 ^ (k + 1) : Nat) : Int) := by rw [κu _ (by omega), Nat.pow_succ]; omega
         clear hv9 hp;generalize ((dval (rest.take k) : Nat) : Int) = vk at *;generalize hvk1 : ((dval (rest.take (k + 1)) : Nat) : Int) = vk1 at *;have HVK := η hvk1;clear hvk1;generalize ((10 ^ k : Nat) : Int) = pk at *;generalize hpk1 : ((10 ^ (k + 1) : Nat) : Int) = pk1 at *;have HPK := η hpk1;clear hpk1;go_wp2_with fail;go_roundg g
         case measure => omega
         case rel => exact ⟨k + 1, by have := HG.out; omega, by go_num, by rw [HVK.out], by rw [HPK.out], rfl⟩
def FPE (w : World) (r : Int × Int) (e : Ending) (w' : World) : Prop := ∃ a0 a1, e = .returned (.tuple #[.agg #[a0, a1, .bool false, .slice none 0 0], .int .i64 r.1]) ∧ NumR w' w' (.agg #[a0, a1]) r.2 ∧ Below w w w'
def qW (w : World) : World := w.alloc (.cells #[.bool false, .slice none 0 0, .bool false, .slice none 0 0] 85)
theorem sC (w : World) : Below w w (qW w) := βA _
theorem bB (r : Bytes) (w : World) (hl : r.length ≤ 1000000) (hn : ∀ k, k < r.length → r.getD k 0 ≠ 47) : Calls Tryz.prog 97 #[.string (bstr r)] w (FPE w (pz r)) := by
 have K1 := η fun W => tC r W hn hl
 have K2 := η fun W => cT r W hl
 have HB0 := η (sC w);unfold qW at HB0;clear hn;generalize pz r = pr at *;obtain ⟨er, n⟩ := pr;generalize bstr r = s at *;go_enter Tryz.func97, Tryz.ntmps97;go_wp2_with fail;refine (K1.out _).mono ?_;rintro e w1 ⟨rfl, hb1⟩;have q0 : w1.cell? ⟨w, 0, none⟩ = some (.bool false) := (hb1.cell (by simp)).trans (by simp);have q1 : w1.cell? ⟨w, 1, none⟩ = some (.slice none 0 0) := (hb1.cell (by simp)).trans (by simp);have q2 : w1.cell? ⟨w, 2, none⟩ = some (.bool false) := (hb1.cell (by simp)).trans (by simp);have q3 : w1.cell? ⟨w, 3, none⟩ = some (.slice none 0 0) := (hb1.cell (by simp)).trans (by simp);have s0 : w1.frozen? ⟨w, 0, none⟩ = false := (hb1.frozen (by simp)).trans (by simp);have s1 : w1.frozen? ⟨w, 1, none⟩ = false := (hb1.frozen (by simp)).trans (by simp);have s2 : w1.frozen? ⟨w, 2, none⟩ = false := (hb1.frozen (by simp)).trans (by simp);have s3 : w1.frozen? ⟨w, 3, none⟩ = false := (hb1.frozen (by simp)).trans (by simp);have HB1 := η (HB0.out.trans (hb1.mono (by simp)));clear hb1 HB0 K1;go_wp2_with fail;refine (K2.out _).mono ?_;rintro e w2 ⟨a, rfl, hv, hb2⟩;have hlt : w < w1.heap.size := World.block_lt_of_cell? w1 ⟨w, 0, none⟩ q0;have p0 : w2.cell? ⟨w, 0, none⟩ = some (.bool false) := (hb2.cell (p := ⟨w, 0, none⟩) hlt).trans q0;have p1 : w2.cell? ⟨w, 1, none⟩ = some (.slice none 0 0) := (hb2.cell (p := ⟨w, 1, none⟩) hlt).trans q1;have p2 : w2.cell? ⟨w, 2, none⟩ = some (.bool false) := (hb2.cell (p := ⟨w, 2, none⟩) hlt).trans q2;have p3 : w2.cell? ⟨w, 3, none⟩ = some (.slice none 0 0) := (hb2.cell (p := ⟨w, 3, none⟩) hlt).trans q3;have t0 : w2.frozen? ⟨w, 0, none⟩ = false := (hb2.frozen (p := ⟨w, 0, none⟩) hlt).trans s0;have t1 : w2.frozen? ⟨w, 1, none⟩ = false := (hb2.frozen (p := ⟨w, 1, none⟩) hlt).trans s1;have t2 : w2.frozen? ⟨w, 2, none⟩ = false := (hb2.frozen (p := ⟨w, 2, none⟩) hlt).trans s2;have t3 : w2.frozen? ⟨w, 3, none⟩ = false := (hb2.frozen (p := ⟨w, 3, none⟩) hlt).trans s3;have HB2 := βT HB1 hb2;have hlt2 : w < w2.heap.size := νl hlt hb2.size;have HV := η hv;clear q0 q1 q2 q3 s0 s1 s2 s3 hb2 K2 HB1;obtain ⟨neg, A, ws, c, rfl, hr⟩ := hv;clear hr;have HN := η ((((HV.out.set p0 (by simp) (.bool neg)).set (p := ⟨w, 1, none⟩) (by rw [κo _ _ _ _ (by simp)]; exact p1) (by simp) (.slice A ws.length c)).set (p := ⟨w, 2, none⟩) (by rw [κo _ _ _ _ (by simp), κo _ _ _ _ (by simp)]; exact p2) (by simp) (.bool false)).set (p := ⟨w, 3, none⟩) (by rw [κo _ _ _ _ (by simp), κo _ _ _ _ (by simp), κo _ _ _ _ (by simp)]; exact p3) (by simp) (.slice none 0 0));have HB3 := η ((((HB2.out.setCell (p := ⟨w, 0, none⟩) (νr _) (.bool neg)).setCell (p := ⟨w, 1, none⟩) (νr _) (.slice A ws.length c)).setCell (p := ⟨w, 2, none⟩) (νr _) (.bool false)).setCell (p := ⟨w, 3, none⟩) (νr _) (.slice none 0 0));go_wp2_with fail;refine κr (v := .tuple #[.agg #[.bool neg, .slice A ws.length c, .bool false, .slice none 0 0], .int .i64 er]) (by simp [results, Tryz.results97, go_sem, p0, p1, p2, p3, hlt2]) rfl ⟨_, _, rfl, ?_, HB3.out.alloc (by simp; omega) _⟩;have := HN.out;refine (this.alloc (by simp) _).more (by simp)
end Go.Proofs.YtkfhpefmmhljmaaGreatDoor
