/- Texts in one: FmP, FmG. -/
import Derived.Test.YtkfhpefmmhljmaaGreatDoorF35
set_option linter.unusedVariables false
set_option linter.unusedSimpArgs false
set_option maxHeartbeats 16000000
set_option maxRecDepth 100000
namespace Go.Proofs.YtkfhpefmmhljmaaGreatDoor
def tkStr : Tk → Bytes
 | .op => [40]
 | .cl => [41]
 | .wd t => t
 | .nm n => Lib.itoa n
def isOp : Tk → Bool
 | .op => true
 | _ => false
def isCl : Tk → Bool
 | .cl => true
 | _ => false
def sepB (p t : Tk) : Bytes := if isOp p || isCl t then [] else [32]
def fmtGo : Option Tk → List Tk → Bytes
 | _, [] => []
 | none, t :: l => tkStr t ++ fmtGo (some t) l
 | some p, t :: l => sepB p t ++ tkStr t ++ fmtGo (some t) l
def fmtT (l : List Tk) : Bytes := fmtGo none l
def sepO : Option Tk → Tk → Bytes
 | none, _ => []
 | some p, t => sepB p t
theorem yR : ∀ (a b : List Tk) (o : Option Tk), fmtGo o (a ++ b) = fmtGo o a ++ fmtGo (match a.getLast? with | none => o | some p => some p) b := by
 intro a
 induction a with
 | nil => intro b o; cases o <;> simp [fmtGo]
 | cons t a ih =>
  intro b o;have e : (match (t :: a).getLast? with | none => o | some p => some p) = (match a.getLast? with | none => some t | some p => some p) := by
   cases a with
   | nil => rfl
   | cons x l =>
    rw [List.getLast?_cons_cons];cases h : (x :: l).getLast? with
    | none => simp at h
    | some y => rfl
  rw [e];cases o with
  | none => rw [κw, fmtGo, fmtGo, ih, κq]
  | some p => rw [κw, fmtGo, fmtGo, ih, κq, κq, κq]
theorem pH (l : List Tk) (t : Tk) : fmtT (l ++ [t]) = fmtT l ++ (sepO l.getLast? t ++ tkStr t) := by
 unfold fmtT;rw [yR];cases h : l.getLast? with
 | none => simp [fmtGo, sepO]
 | some p => simp [fmtGo, sepO]
def TkWf : Tk → Prop
 | .op => True
 | .cl => True
 | .wd t => allB isLow t = true ∧ t.length ≤ 1000
 | .nm n => -2147483648 < n ∧ n < 2147483648
theorem pG (l : List Tk) (k : Nat) : (fmtT (l.take k)).length ≤ (fmtT l).length := by
 have h : fmtT l = fmtT (l.take k ++ l.drop k) := by rw [List.take_append_drop]
 rw [h];unfold fmtT;rw [yR, κa];omega
theorem kL (l : List Tk) (k : Nat) (h : k < l.length) (d : Tk) : (l.take (k + 1)).getLast? = some (l.getD k d) := by
 have e : l.getD k d = l[k] := by simp [h]
 rw [κs h, List.getLast?_concat, e]
end Go.Proofs.YtkfhpefmmhljmaaGreatDoor
namespace Go.Proofs.YtkfhpefmmhljmaaGreatDoor
open Go.RowKit
def TkR : Enc Tk := fun w B c t => match t with
 | .op => c = [.int .u8 1, .string ⟨#[]⟩, .bool false, .slice none 0 0, .bool false, .slice none 0 0]
 | .cl => c = [.int .u8 2, .string ⟨#[]⟩, .bool false, .slice none 0 0, .bool false, .slice none 0 0]
 | .wd y => c = [.int .u8 3, .string (bstr y), .bool false, .slice none 0 0, .bool false, .slice none 0 0]
 | .nm n => ∃ ng A k c', c = [.int .u8 4, .string ⟨#[]⟩, .bool ng, .slice A k c', .bool false, .slice none 0 0] ∧ NumR w B (.agg #[.bool ng, .slice A k c']) n
theorem NumR.keep {w w' : World} {B B' : Nat} {v : Value} {n : Int} (h : NumR w B v n) (hk : ∀ p : Addr, p.block < B → w'.cell? p = w.cell? p) (hB : B ≤ B') : NumR w' B' v n := by
 obtain ⟨neg, A, ws, c, h1, h2, h2', h3, h4⟩ := h;exact ⟨neg, A, ws, c, h1, h2, h2', (h3.keep hk).more hB, h4⟩
theorem TkR.keep : EKeep TkR := ⟨fun {w w' B B' c x} hk hB h => by
 cases x with
 | op => exact h
 | cl => exact h
 | wd y => exact h
 | nm n => obtain ⟨ng, A, k, c', h1, h2⟩ := h; exact ⟨ng, A, k, c', h1, h2.keep hk hB⟩⟩
theorem TkO.read {w : World} {base : Nat} {c : List Value} {t : Tk} (h : TkO w base c t) : TkR w w c t := by
 cases t with
 | op => exact h
 | cl => exact h
 | wd y => exact h
 | nm n =>
  obtain ⟨a0, a1, rfl, h2⟩ := h;obtain ⟨ng, A, k, c, rfl, rfl⟩ := h2.form;exact ⟨ng, A, k, c, rfl, h2.num⟩
theorem TkR.kind {w : World} {B : Nat} {c : List Value} {t : Tk} (h : TkR w B c t) : c[0]? = some (.int .u8 (qI t)) := by
 cases t with
 | op => replace h : c = _ := h; subst h; rfl
 | cl => replace h : c = _ := h; subst h; rfl
 | wd y => replace h : c = _ := h; subst h; rfl
 | nm n => obtain ⟨ng, A, k, c', rfl, _⟩ := h; rfl
theorem jC (B b : Nat) (bs : List Value) (s : ByteArray) (w : World) (h : Lib.IsBuilder 115 5 B b bs w) (hlen : bs.length + s.size ≤ 140737488355328) (hBw : B ≤ w) :
  Calls Tryz.prog 60 #[.pointer (some ⟨b, 0, none⟩), .string s] w fun e w' => e = .returned (.tuple #[.int .i64 s.size, .nilIface]) ∧ Lib.IsBuilder 115 5 B b (bs ++ Lib.strCells s) w' ∧ Below B w w' :=
 (Any.Builder_WriteString (P := Tryz.prog) (ρ := Tryz.lays156_ren) { Tryz.lays156 with } Tryz.Builder_Extra_156 B b bs s w h hlen hBw).mono fun e w' h => ⟨h.1, .inr h.2.1, h.2.2⟩
theorem jS (B b : Nat) (T : Bytes) (w : World) (h : Lib.IsBuilder 115 5 B b (Lib.byteCells T) w) : Calls Tryz.prog 61 #[.pointer (some ⟨b, 0, none⟩)] w fun e w' => e = .returned (.int .i64 (T.length : Int)) ∧ w' = w :=
 (Tryz.Builder_Len B b _ w h).mono (by rintro e w' ⟨rfl, rfl⟩; rw [Lib.byteCells_length]; exact ⟨rfl, rfl⟩)
theorem zF (a b : Bytes) (w : World) (h : a.length + b.length ≤ 1000000) : (Op.stringOp .add (bstr a) (bstr b)).run Tryz.prog w = .ok (.string (bstr (a ++ b))) w := by
 have := run_string_add_sum (P := Tryz.prog) (w := w) (bstr a) (bstr b) (by rw [zQ, zQ]; omega);rw [this, mU]
theorem fS {t : Tk} (h : qI t = 1) : isOp t = true := by
 cases t with
 | op => rfl
 | cl => exact absurd (show (2 : Int) = 1 from h) (by decide)
 | wd y => exact absurd (show (3 : Int) = 1 from h) (by decide)
 | nm n => exact absurd (show (4 : Int) = 1 from h) (by decide)
theorem nJ {t : Tk} (h : qI t ≠ 1) : isOp t = false := by
 cases t with
 | op => exact absurd rfl h
 | cl => rfl
 | wd y => rfl
 | nm n => rfl
theorem jO {w w' : World} {T e : TypeId} {B b : Nat} {bs : List Value} (h : Lib.IsBuilder T e B b bs w) (hb : Below w w w') : Lib.IsBuilder T e B b bs w' := by
 have key : ∀ p, Lib.BuilderAt T e B b p bs w → Lib.BuilderAt T e B b p bs w' := fun p ⟨h1, v, h2, h3, h4⟩ =>
  ⟨h1, v, (hb.block b (κi h2).1).trans h2, qS h3 hb, h4⟩
 exact h.imp (key _) (key _)
def TxtE (w : World) (t : Bytes) (e : Ending) (w' : World) : Prop := e = .returned (.tuple #[.string (bstr t), .int .i64 0]) ∧ Below w w w'
theorem jY (base : Nat) (A : Option Addr) (c : Nat) (l : List Tk) (w : World) (hl : RowO TkO 87 6 w base (.slice A l.length c) l) (hw : ∀ t ∈ l, TkWf t) (hn : (fmtT l).length ≤ 65536) (hm : l.length ≤ 100000) :
  Calls Tryz.prog 65 #[.slice A l.length c] w (TxtE w (fmtT l)) := by
 obtain ⟨A', c', hA, _, hrow⟩ := hl.read (E' := TkR) (fun _ _ h => h.read);injection hA with hA _ _
 subst hA;have HL := η hrow;have HW := η hw;have HN := η hn;clear hl hrow hw hn;have HB0 : Hid (Below w w (w.alloc (.cells #[.pointer none, .slice none 0 0] 115))) := βA _;have HS0 : Hid (Lib.IsBuilder 115 5 w w (Lib.byteCells (fmtT (l.take 0))) (w.alloc (.cells #[.pointer none, .slice none 0 0] 115))) := by
  show Lib.IsBuilder _ _ _ _ _ _
  rw [List.take_zero];exact Lib.fresh_isBuilder _ _ w
 go_enter Tryz.func65, Tryz.ntmps65;go_wp2_with fail;go_loopg [5, 11] l.length (fun gk s5 s11 wr => ∃ k : Nat, k + gk = l.length ∧ s11 = .int .i64 (k : Int) ∧ s5 = .bool false ∧ Lib.IsBuilder 115 5 w w (Lib.byteCells (fmtT (l.take k))) wr ∧ Below w w wr)
 case atStart => exact ⟨0, by omega, rfl, rfl, HS0.out, HB0.out⟩
 case round =>
  obtain ⟨k, hkg, rfl, rfl, hbu, hbl⟩ := hrel;have HS := η hbu;have HB := η hbl;clear hbu hbl HS0 HB0;cases gk with
  | zero =>
   obtain rfl : k = l.length := by omega
   clear hkg;go_wp2_with fail;refine (Tryz.Builder_String_any w w _ wr HS.out HB.out.size).mono ?_;rintro e w1 ⟨rfl, hb1⟩;have HB1 := η (HB.out.trans hb1);clear hb1 HS HB;go_wp2_with fail;go_ret2;exact ⟨rfl, HB1.out⟩
  | succ g =>
   have hk : k < l.length := by omega
   have HG := η hkg;clear hkg;have HLR := η (HL.out.up TkR.keep HB.out);obtain ⟨b, off, cc, rfl, hb, hc1, hc2, hc3⟩ := HLR.out.at_ k .op hk;have HT : Hid (l.take (k + 1) = l.take k ++ [l.getD k .op]) := by show _ = _; rw [κs hk, zM l k .op hk]
   have HWF := η (HW.out (l.getD k .op) (by rw [zM l k .op hk]; exact List.getElem_mem hk));generalize htt : l.getD k .op = tk at *;have HTT := η htt;clear htt;have HLE : Hid ((fmtT (l.take k)).length + (sepO (l.take k).getLast? tk ++ tkStr tk).length ≤ 65536) := by
    show _ ≤ _
    have h1 := pG l (k + 1);rw [HT.out, pH, κa] at h1;exact Nat.le_trans h1 HN.out
   have hzw : w ≤ wr.heap.size := HB.out.size;have hbw : b < wr := by omega
   obtain ⟨T0, hT0⟩ : ∃ T, T = fmtT (l.take k) := ⟨_, rfl⟩;rw [← hT0] at HS HLE;have HTN : Hid (fmtT (l.take (k + 1)) = T0 ++ (sepO (l.take k).getLast? tk ++ tkStr tk)) := by show _ = _; rw [HT.out, pH, hT0]
   clear hT0 HT;cases tk with
   | op =>
    replace hc2 : cc = _ := hc2;subst hc2;have f0 := hc3 0 _ rfl;have f1 := hc3 1 _ rfl;have f2 := hc3 2 _ rfl;have f3 := hc3 3 _ rfl;have f4 := hc3 4 _ rfl;have f5 := hc3 5 _ rfl;rw [κz] at f0;clear hc3 hc1;have HS1 : Hid (Lib.IsBuilder 115 5 w w (Lib.byteCells T0) (wr.alloc (.cells #[.int .u8 1, .string ⟨#[]⟩, .bool false, .slice none 0 0, .bool false, .slice none 0 0] 87))) := jO HS.out (βA _);have HB1 : Hid (Below w w (wr.alloc (.cells #[.int .u8 1, .string ⟨#[]⟩, .bool false, .slice none 0 0, .bool false, .slice none 0 0] 87))) := HB.out.alloc hzw _;by_cases hk0 : k = 0
    ·subst hk0;rw [Nat.zero_mul, κz] at f0;rw [Nat.zero_mul, κz] at f1;rw [Nat.zero_mul, κz] at f2;rw [Nat.zero_mul, κz] at f3;rw [Nat.zero_mul, κz] at f4;rw [Nat.zero_mul, κz] at f5;obtain ⟨o, ho⟩ : ∃ o, o = (l.take 0).getLast? := ⟨_, rfl⟩;have hsep : ∀ t, sepO o t = [] := fun t => by rw [ho]; rfl
     rw [← ho] at HLE HTN;rw [hsep] at HLE HTN;have hle : T0.length + 1 ≤ 65536 := by
      have h := HLE.out;simp only [tkStr, κa, κc, κn] at h;omega
     have d6 : decide ((65536 : Int) < (T0.length : Int) + 1) = false := κf (by omega);have hcells : Hid (Lib.byteCells T0 ++ Lib.strCells ⟨#[40]⟩ = Lib.byteCells (fmtT (l.take (0 + 1)))) := by
      show _ = _
      rw [HTN.out]; simp [Lib.byteCells, Lib.strCells, tkStr, bstr]
     clear HLE HTN ho;have KL := η fun W (hS : Lib.IsBuilder 115 5 w w (Lib.byteCells T0) W) => jS _ _ T0 W hS
     have KW := η fun W hS hB => jC w w (Lib.byteCells T0) ⟨#[40]⟩ W hS (by rw [Lib.byteCells_length]; show T0.length + 1 ≤ _; omega) hB
     go_wp2_with fail;refine (KL.out _ HS1.out).mono ?_;rintro e w' ⟨rfl, rfl⟩;go_wp2_with fail;refine (KW.out _ HS1.out HB1.out.size).mono ?_;rintro e w4 ⟨rfl, hbu4, hb4⟩;rw [hcells.out] at hbu4;have HS4 := η hbu4;have HB4 := η (HB1.out.trans hb4);clear hbu4 hb4 KW KL HS1 HB1;go_wp2_with fail;go_roundg g
     case measure => omega
     case rel => exact ⟨0 + 1, by have := HG.out; omega, by go_num, rfl, HS4.out, HB4.out⟩
    obtain ⟨j, rfl⟩ : ∃ j, k = j + 1 := ⟨k - 1, by omega⟩;obtain ⟨b2, off2, c2, he2, hb2, hd1, hd2, hd3⟩ := HLR.out.at_ j .op (by omega);injection he2 with he2
    injection he2 with he3 he4 _
    subst he3 he4;have p0 := hd3 0 _ hd2.kind;rw [κz] at p0;obtain ⟨o, ho⟩ : ∃ o, o = (l.take (j + 1)).getLast? := ⟨_, rfl⟩;have hlast : o = some (l.getD j .op) := by rw [ho, kL l j (by omega)]
    rw [← ho] at HLE HTN;generalize l.getD j .op = pt at *;clear hd1 hd2 hd3 hk0;by_cases hpo : qI pt = 1
    ·have hop : isOp pt = true := fS hpo;have hsep : ∀ t, sepO o t = [] := fun t => by rw [hlast]; show sepB pt t = []; rw [sepB, hop]; rfl
     rw [hpo] at p0;rw [hsep] at HLE HTN;have hle : T0.length + 1 ≤ 65536 := by
      have h := HLE.out;simp only [tkStr, κa, κc, κn] at h;omega
     have d6 : decide ((65536 : Int) < (T0.length : Int) + 1) = false := κf (by omega);have hcells : Hid (Lib.byteCells T0 ++ Lib.strCells ⟨#[40]⟩ = Lib.byteCells (fmtT (l.take ((j + 1) + 1)))) := by
      show _ = _
      rw [HTN.out]; simp [Lib.byteCells, Lib.strCells, tkStr, bstr]
     clear HLE HTN ho hlast hop hpo;have KL := η fun W (hS : Lib.IsBuilder 115 5 w w (Lib.byteCells T0) W) => jS _ _ T0 W hS
     have KW := η fun W hS hB => jC w w (Lib.byteCells T0) ⟨#[40]⟩ W hS (by rw [Lib.byteCells_length]; show T0.length + 1 ≤ _; omega) hB
     go_wp2_with fail;refine (KL.out _ HS1.out).mono ?_;rintro e w' ⟨rfl, rfl⟩;go_wp2_with fail;refine (KW.out _ HS1.out HB1.out.size).mono ?_;rintro e w4 ⟨rfl, hbu4, hb4⟩;rw [hcells.out] at hbu4;have HS4 := η hbu4;have HB4 := η (HB1.out.trans hb4);clear hbu4 hb4 KW KL HS1 HB1;go_wp2_with fail;go_roundg g
     case measure => omega
     case rel => exact ⟨(j + 1) + 1, by have := HG.out; omega, by go_num, rfl, HS4.out, HB4.out⟩
    ·have hop : isOp pt = false := nJ hpo;have e1 : (qI pt == 1) = false := βf hpo;have e2 : (qI pt != 1) = true := βt hpo;have hsep : sepO o (.op) = [32] := by rw [hlast]; show sepB pt _ = [32]; rw [sepB, hop]; rfl
     rw [hsep] at HLE HTN;have ep : (⟨#[32]⟩ : ByteArray) ++ ⟨#[40]⟩ = ⟨#[32, 40]⟩ := rfl;have hle : T0.length + 2 ≤ 65536 := by
      have h := HLE.out;simp only [tkStr, κa, κc, κn] at h;omega
     have d6 : decide ((65536 : Int) < (T0.length : Int) + 2) = false := κf (by omega);have hcells : Hid (Lib.byteCells T0 ++ Lib.strCells ⟨#[32, 40]⟩ = Lib.byteCells (fmtT (l.take ((j + 1) + 1)))) := by
      show _ = _
      rw [HTN.out]; simp [Lib.byteCells, Lib.strCells, tkStr, bstr]
     clear HLE HTN ho hlast hop hpo;have KL := η fun W (hS : Lib.IsBuilder 115 5 w w (Lib.byteCells T0) W) => jS _ _ T0 W hS
     have KW := η fun W hS hB => jC w w (Lib.byteCells T0) ⟨#[32, 40]⟩ W hS (by rw [Lib.byteCells_length]; show T0.length + 2 ≤ _; omega) hB
     go_wp2_with fail;refine (KL.out _ HS1.out).mono ?_;rintro e w' ⟨rfl, rfl⟩;go_wp2_with fail;refine (KW.out _ HS1.out HB1.out.size).mono ?_;rintro e w4 ⟨rfl, hbu4, hb4⟩;rw [hcells.out] at hbu4;have HS4 := η hbu4;have HB4 := η (HB1.out.trans hb4);clear hbu4 hb4 KW KL HS1 HB1;go_wp2_with fail;go_roundg g
     case measure => omega
     case rel => exact ⟨(j + 1) + 1, by have := HG.out; omega, by go_num, rfl, HS4.out, HB4.out⟩
   | cl =>
    replace hc2 : cc = _ := hc2;subst hc2;have f0 := hc3 0 _ rfl;have f1 := hc3 1 _ rfl;have f2 := hc3 2 _ rfl;have f3 := hc3 3 _ rfl;have f4 := hc3 4 _ rfl;have f5 := hc3 5 _ rfl;rw [κz] at f0;clear hc3 hc1;have HS1 : Hid (Lib.IsBuilder 115 5 w w (Lib.byteCells T0) (wr.alloc (.cells #[.int .u8 2, .string ⟨#[]⟩, .bool false, .slice none 0 0, .bool false, .slice none 0 0] 87))) := jO HS.out (βA _);have HB1 : Hid (Below w w (wr.alloc (.cells #[.int .u8 2, .string ⟨#[]⟩, .bool false, .slice none 0 0, .bool false, .slice none 0 0] 87))) := HB.out.alloc hzw _;by_cases hk0 : k = 0
    ·subst hk0;rw [Nat.zero_mul, κz] at f0;rw [Nat.zero_mul, κz] at f1;rw [Nat.zero_mul, κz] at f2;rw [Nat.zero_mul, κz] at f3;rw [Nat.zero_mul, κz] at f4;rw [Nat.zero_mul, κz] at f5;obtain ⟨o, ho⟩ : ∃ o, o = (l.take 0).getLast? := ⟨_, rfl⟩;have hsep : ∀ t, sepO o t = [] := fun t => by rw [ho]; rfl
     rw [← ho] at HLE HTN;rw [hsep] at HLE HTN;have hle : T0.length + 1 ≤ 65536 := by
      have h := HLE.out;simp only [tkStr, κa, κc, κn] at h;omega
     have d6 : decide ((65536 : Int) < (T0.length : Int) + 1) = false := κf (by omega);have hcells : Hid (Lib.byteCells T0 ++ Lib.strCells ⟨#[41]⟩ = Lib.byteCells (fmtT (l.take (0 + 1)))) := by
      show _ = _
      rw [HTN.out]; simp [Lib.byteCells, Lib.strCells, tkStr, bstr]
     clear HLE HTN ho;have KL := η fun W (hS : Lib.IsBuilder 115 5 w w (Lib.byteCells T0) W) => jS _ _ T0 W hS
     have KW := η fun W hS hB => jC w w (Lib.byteCells T0) ⟨#[41]⟩ W hS (by rw [Lib.byteCells_length]; show T0.length + 1 ≤ _; omega) hB
     go_wp2_with fail;refine (KL.out _ HS1.out).mono ?_;rintro e w' ⟨rfl, rfl⟩;go_wp2_with fail;refine (KW.out _ HS1.out HB1.out.size).mono ?_;rintro e w4 ⟨rfl, hbu4, hb4⟩;rw [hcells.out] at hbu4;have HS4 := η hbu4;have HB4 := η (HB1.out.trans hb4);clear hbu4 hb4 KW KL HS1 HB1;go_wp2_with fail;go_roundg g
     case measure => omega
     case rel => exact ⟨0 + 1, by have := HG.out; omega, by go_num, rfl, HS4.out, HB4.out⟩
    obtain ⟨j, rfl⟩ : ∃ j, k = j + 1 := ⟨k - 1, by omega⟩;obtain ⟨b2, off2, c2, he2, hb2, hd1, hd2, hd3⟩ := HLR.out.at_ j .op (by omega);injection he2 with he2
    injection he2 with he3 he4 _
    subst he3 he4;have p0 := hd3 0 _ hd2.kind;rw [κz] at p0;obtain ⟨o, ho⟩ : ∃ o, o = (l.take (j + 1)).getLast? := ⟨_, rfl⟩;have hlast : o = some (l.getD j .op) := by rw [ho, kL l j (by omega)]
    rw [← ho] at HLE HTN;generalize l.getD j .op = pt at *;clear hd1 hd2 hd3 hk0;by_cases hpo : qI pt = 1
    ·have hop : isOp pt = true := fS hpo;have hsep : ∀ t, sepO o t = [] := fun t => by rw [hlast]; show sepB pt t = []; rw [sepB, hop]; rfl
     rw [hpo] at p0;rw [hsep] at HLE HTN;have hle : T0.length + 1 ≤ 65536 := by
      have h := HLE.out;simp only [tkStr, κa, κc, κn] at h;omega
     have d6 : decide ((65536 : Int) < (T0.length : Int) + 1) = false := κf (by omega);have hcells : Hid (Lib.byteCells T0 ++ Lib.strCells ⟨#[41]⟩ = Lib.byteCells (fmtT (l.take ((j + 1) + 1)))) := by
      show _ = _
      rw [HTN.out]; simp [Lib.byteCells, Lib.strCells, tkStr, bstr]
     clear HLE HTN ho hlast hop hpo;have KL := η fun W (hS : Lib.IsBuilder 115 5 w w (Lib.byteCells T0) W) => jS _ _ T0 W hS
     have KW := η fun W hS hB => jC w w (Lib.byteCells T0) ⟨#[41]⟩ W hS (by rw [Lib.byteCells_length]; show T0.length + 1 ≤ _; omega) hB
     go_wp2_with fail;refine (KL.out _ HS1.out).mono ?_;rintro e w' ⟨rfl, rfl⟩;go_wp2_with fail;refine (KW.out _ HS1.out HB1.out.size).mono ?_;rintro e w4 ⟨rfl, hbu4, hb4⟩;rw [hcells.out] at hbu4;have HS4 := η hbu4;have HB4 := η (HB1.out.trans hb4);clear hbu4 hb4 KW KL HS1 HB1;go_wp2_with fail;go_roundg g
     case measure => omega
     case rel => exact ⟨(j + 1) + 1, by have := HG.out; omega, by go_num, rfl, HS4.out, HB4.out⟩
    ·have hop : isOp pt = false := nJ hpo;have e1 : (qI pt == 1) = false := βf hpo;have e2 : (qI pt != 1) = true := βt hpo;have hsep : sepO o .cl = [] := by rw [hlast]; show sepB pt .cl = []; rw [sepB, hop]; rfl
     rw [hsep] at HLE HTN;have hle : T0.length + 1 ≤ 65536 := by
      have h := HLE.out;simp only [tkStr, κa, κc, κn] at h;omega
     have d6 : decide ((65536 : Int) < (T0.length : Int) + 1) = false := κf (by omega);have hcells : Hid (Lib.byteCells T0 ++ Lib.strCells ⟨#[41]⟩ = Lib.byteCells (fmtT (l.take ((j + 1) + 1)))) := by
      show _ = _
      rw [HTN.out]; simp [Lib.byteCells, Lib.strCells, tkStr, bstr]
     clear HLE HTN ho hlast hop hpo;have KL := η fun W (hS : Lib.IsBuilder 115 5 w w (Lib.byteCells T0) W) => jS _ _ T0 W hS
     have KW := η fun W hS hB => jC w w (Lib.byteCells T0) ⟨#[41]⟩ W hS (by rw [Lib.byteCells_length]; show T0.length + 1 ≤ _; omega) hB
     go_wp2_with fail;refine (KL.out _ HS1.out).mono ?_;rintro e w' ⟨rfl, rfl⟩;go_wp2_with fail;refine (KW.out _ HS1.out HB1.out.size).mono ?_;rintro e w4 ⟨rfl, hbu4, hb4⟩;rw [hcells.out] at hbu4;have HS4 := η hbu4;have HB4 := η (HB1.out.trans hb4);clear hbu4 hb4 KW KL HS1 HB1;go_wp2_with fail;go_roundg g
     case measure => omega
     case rel => exact ⟨(j + 1) + 1, by have := HG.out; omega, by go_num, rfl, HS4.out, HB4.out⟩
   | wd y =>
    replace hc2 : cc = _ := hc2;subst hc2;have f0 := hc3 0 _ rfl;have f1 := hc3 1 _ rfl;have f2 := hc3 2 _ rfl;have f3 := hc3 3 _ rfl;have f4 := hc3 4 _ rfl;have f5 := hc3 5 _ rfl;rw [κz] at f0;clear hc3 hc1;have HS1 : Hid (Lib.IsBuilder 115 5 w w (Lib.byteCells T0) (wr.alloc (.cells #[.int .u8 3, .string (bstr y), .bool false, .slice none 0 0, .bool false, .slice none 0 0] 87))) := jO HS.out (βA _);have HB1 : Hid (Below w w (wr.alloc (.cells #[.int .u8 3, .string (bstr y), .bool false, .slice none 0 0, .bool false, .slice none 0 0] 87))) := HB.out.alloc hzw _;by_cases hk0 : k = 0
    ·subst hk0;rw [Nat.zero_mul, κz] at f0;rw [Nat.zero_mul, κz] at f1;rw [Nat.zero_mul, κz] at f2;rw [Nat.zero_mul, κz] at f3;rw [Nat.zero_mul, κz] at f4;rw [Nat.zero_mul, κz] at f5;obtain ⟨o, ho⟩ : ∃ o, o = (l.take 0).getLast? := ⟨_, rfl⟩;have hsep : ∀ t, sepO o t = [] := fun t => by rw [ho]; rfl
     rw [← ho] at HLE HTN;rw [hsep] at HLE HTN;have hsz : (bstr y).size = y.length := by rw [zQ]
     have hle : T0.length + y.length ≤ 65536 := by
      have h := HLE.out;simp only [tkStr, κa, κc, κn] at h;omega
     have d6 : decide ((65536 : Int) < (T0.length : Int) + (y.length : Int)) = false := κf (by omega);have hcells : Hid (Lib.byteCells T0 ++ Lib.strCells (bstr y) = Lib.byteCells (fmtT (l.take (0 + 1)))) := by
      show _ = _
      rw [HTN.out]; simp [Lib.byteCells, Lib.strCells, tkStr, bstr]
     clear HLE HTN ho;have KL := η fun W (hS : Lib.IsBuilder 115 5 w w (Lib.byteCells T0) W) => jS _ _ T0 W hS
     have KW := η fun W hS hB => jC w w (Lib.byteCells T0) (bstr y) W hS (by rw [Lib.byteCells_length]; rw [hsz]; show T0.length + y.length ≤ _; omega) hB
     have K1 := η dU;have K2 : Hid (∀ W, Calls Tryz.prog 95 #[lowV, .string (bstr y)] W fun e w' => e = .returned (.bool true) ∧ Below W W w') := fun W => by
      have := fP y W (by have := HWF.out.2; omega);rw [HWF.out.1] at this;exact this
     have HXT : Hid (Box (wr.alloc (.cells #[.int .u8 3, .string (bstr y), .bool false, .slice none 0 0, .bool false, .slice none 0 0] 87)) wr [.int .u8 3, .string (bstr y), .bool false, .slice none 0 0, .bool false, .slice none 0 0]) := Box.new wr #[.int .u8 3, .string (bstr y), .bool false, .slice none 0 0, .bool false, .slice none 0 0] 87;have hzt : wr < (wr.alloc (.cells #[.int .u8 3, .string (bstr y), .bool false, .slice none 0 0, .bool false, .slice none 0 0] 87)).heap.size := by simp
     go_wp2_with fail;refine zE (w0 := (wr.alloc (.cells #[.int .u8 3, .string (bstr y), .bool false, .slice none 0 0, .bool false, .slice none 0 0] 87))) [(7, .pointer (some ⟨wr, 0, none⟩)), (24, lowV), (25, .pointer (some ⟨wr, 1, none⟩)), (26, .string (bstr y)), (27, .bool true), (28, .bool false)] [] [7] ?_ ?_
     ·intro T hT W hI;simp only [zA, and_true] at hT;have c1 := (HXT.out.up hI hzt).c 1 _ rfl;have g1 : wr < W.heap.size := νl hzt hI.size
      repeat' first | exact AllO.nil | apply AllO.cons
      all_goals try ((first | refine oV ?_ | refine oN ?_ | refine oG (t := by simp only [hT]) (h := ?_)); simp [go_sem, EvT, hT, c1, g1, valT]; done)
      ·refine opT_r (zO 94 #[] (by simp [go_sem, EvT, hT, c1, g1]) ?_);simp only [valT, hT];exact K1.out W
      ·refine opT_r (zO 95 #[lowV, .string (bstr y)] (by simp [go_sem, EvT, hT, c1, g1]) ?_);simp only [valT, hT];exact K2.out W
     intro wx hb;simp (decide := true) only [putT, valT, look, Act.put, σi, σo, σs, Nat.reduceAdd, if_true, if_false];have HS2 := η (jO HS1.out hb);have HB2 := η (HB1.out.trans (hb.mono (by simp; omega)));have HX2 := η (HXT.out.up hb hzt);have t1 := HX2.out.c 1 _ rfl;have t0 := HX2.out.c 0 _ rfl;have hzx : wr < wx.heap.size := νl hzt hb.size;clear hb HS1 HB1 HXT K1 K2;have HS1 := HS2;have HB1 := HB2;clear HS2 HB2;have hbx : b < wx := by omega
     go_wp2_with fail;refine (KL.out _ HS1.out).mono ?_;rintro e w' ⟨rfl, rfl⟩;go_wp2_with fail;refine (KW.out _ HS1.out HB1.out.size).mono ?_;rintro e w4 ⟨rfl, hbu4, hb4⟩;rw [hcells.out] at hbu4;have HS4 := η hbu4;have HB4 := η (HB1.out.trans hb4);clear hbu4 hb4 KW KL HS1 HB1;go_wp2_with fail;go_roundg g
     case measure => omega
     case rel => exact ⟨0 + 1, by have := HG.out; omega, by go_num, rfl, HS4.out, HB4.out⟩
    obtain ⟨j, rfl⟩ : ∃ j, k = j + 1 := ⟨k - 1, by omega⟩;obtain ⟨b2, off2, c2, he2, hb2, hd1, hd2, hd3⟩ := HLR.out.at_ j .op (by omega);injection he2 with he2
    injection he2 with he3 he4 _
    subst he3 he4;have p0 := hd3 0 _ hd2.kind;rw [κz] at p0;obtain ⟨o, ho⟩ : ∃ o, o = (l.take (j + 1)).getLast? := ⟨_, rfl⟩;have hlast : o = some (l.getD j .op) := by rw [ho, kL l j (by omega)]
    rw [← ho] at HLE HTN;generalize l.getD j .op = pt at *;clear hd1 hd2 hd3 hk0;by_cases hpo : qI pt = 1
    ·have hop : isOp pt = true := fS hpo;have hsep : ∀ t, sepO o t = [] := fun t => by rw [hlast]; show sepB pt t = []; rw [sepB, hop]; rfl
     rw [hpo] at p0;rw [hsep] at HLE HTN;have hsz : (bstr y).size = y.length := by rw [zQ]
     have hle : T0.length + y.length ≤ 65536 := by
      have h := HLE.out;simp only [tkStr, κa, κc, κn] at h;omega
     have d6 : decide ((65536 : Int) < (T0.length : Int) + (y.length : Int)) = false := κf (by omega);have hcells : Hid (Lib.byteCells T0 ++ Lib.strCells (bstr y) = Lib.byteCells (fmtT (l.take ((j + 1) + 1)))) := by
      show _ = _
      rw [HTN.out]; simp [Lib.byteCells, Lib.strCells, tkStr, bstr]
     clear HLE HTN ho hlast hop hpo;have KL := η fun W (hS : Lib.IsBuilder 115 5 w w (Lib.byteCells T0) W) => jS _ _ T0 W hS
     have KW := η fun W hS hB => jC w w (Lib.byteCells T0) (bstr y) W hS (by rw [Lib.byteCells_length]; rw [hsz]; show T0.length + y.length ≤ _; omega) hB
     have K1 := η dU;have K2 : Hid (∀ W, Calls Tryz.prog 95 #[lowV, .string (bstr y)] W fun e w' => e = .returned (.bool true) ∧ Below W W w') := fun W => by
      have := fP y W (by have := HWF.out.2; omega);rw [HWF.out.1] at this;exact this
     have HXT : Hid (Box (wr.alloc (.cells #[.int .u8 3, .string (bstr y), .bool false, .slice none 0 0, .bool false, .slice none 0 0] 87)) wr [.int .u8 3, .string (bstr y), .bool false, .slice none 0 0, .bool false, .slice none 0 0]) := Box.new wr #[.int .u8 3, .string (bstr y), .bool false, .slice none 0 0, .bool false, .slice none 0 0] 87;have hzt : wr < (wr.alloc (.cells #[.int .u8 3, .string (bstr y), .bool false, .slice none 0 0, .bool false, .slice none 0 0] 87)).heap.size := by simp
     go_wp2_with fail;refine zE (w0 := (wr.alloc (.cells #[.int .u8 3, .string (bstr y), .bool false, .slice none 0 0, .bool false, .slice none 0 0] 87))) [(7, .pointer (some ⟨wr, 0, none⟩)), (24, lowV), (25, .pointer (some ⟨wr, 1, none⟩)), (26, .string (bstr y)), (27, .bool true), (28, .bool false)] [] [7] ?_ ?_
     ·intro T hT W hI;simp only [zA, and_true] at hT;have c1 := (HXT.out.up hI hzt).c 1 _ rfl;have g1 : wr < W.heap.size := νl hzt hI.size
      repeat' first | exact AllO.nil | apply AllO.cons
      all_goals try ((first | refine oV ?_ | refine oN ?_ | refine oG (t := by simp only [hT]) (h := ?_)); simp [go_sem, EvT, hT, c1, g1, valT]; done)
      ·refine opT_r (zO 94 #[] (by simp [go_sem, EvT, hT, c1, g1]) ?_);simp only [valT, hT];exact K1.out W
      ·refine opT_r (zO 95 #[lowV, .string (bstr y)] (by simp [go_sem, EvT, hT, c1, g1]) ?_);simp only [valT, hT];exact K2.out W
     intro wx hb;simp (decide := true) only [putT, valT, look, Act.put, σi, σo, σs, Nat.reduceAdd, if_true, if_false];have HS2 := η (jO HS1.out hb);have HB2 := η (HB1.out.trans (hb.mono (by simp; omega)));have HX2 := η (HXT.out.up hb hzt);have t1 := HX2.out.c 1 _ rfl;have t0 := HX2.out.c 0 _ rfl;have hzx : wr < wx.heap.size := νl hzt hb.size;replace p0 : wx.cell? ⟨b, off + j * 6, none⟩ = _ := (hb.cell (p := ⟨b, off + j * 6, none⟩) (by simp; omega)).trans ((World.cell?_alloc_lt _ _ _ (by omega)).trans p0);clear hb HS1 HB1 HXT K1 K2;have HS1 := HS2;have HB1 := HB2;clear HS2 HB2;have hbx : b < wx := by omega
     go_wp2_with fail;refine (KL.out _ HS1.out).mono ?_;rintro e w' ⟨rfl, rfl⟩;go_wp2_with fail;refine (KW.out _ HS1.out HB1.out.size).mono ?_;rintro e w4 ⟨rfl, hbu4, hb4⟩;rw [hcells.out] at hbu4;have HS4 := η hbu4;have HB4 := η (HB1.out.trans hb4);clear hbu4 hb4 KW KL HS1 HB1;go_wp2_with fail;go_roundg g
     case measure => omega
     case rel => exact ⟨(j + 1) + 1, by have := HG.out; omega, by go_num, rfl, HS4.out, HB4.out⟩
    ·have hop : isOp pt = false := nJ hpo;have e1 : (qI pt == 1) = false := βf hpo;have e2 : (qI pt != 1) = true := βt hpo;have hsep : sepO o (.wd y) = [32] := by rw [hlast]; show sepB pt _ = [32]; rw [sepB, hop]; rfl
     rw [hsep] at HLE HTN;have ep : ∀ W : World, (Op.stringOp .add ⟨#[32]⟩ (bstr y)).run Tryz.prog W = .ok (.string (bstr (32 :: y))) W := fun W => zF [32] y W (by have h := HLE.out; simp only [tkStr, κa, κc, κn] at h ⊢; omega)
     have hsz : (bstr (32 :: y)).size = (y.length + 1) := by rw [zQ]; rfl
     have hle : T0.length + (y.length + 1) ≤ 65536 := by
      have h := HLE.out;simp only [tkStr, κa, κc, κn] at h;omega
     have d6 : decide ((65536 : Int) < (T0.length : Int) + ((y.length : Int) + 1)) = false := κf (by omega);have hcells : Hid (Lib.byteCells T0 ++ Lib.strCells (bstr (32 :: y)) = Lib.byteCells (fmtT (l.take ((j + 1) + 1)))) := by
      show _ = _
      rw [HTN.out]; simp [Lib.byteCells, Lib.strCells, tkStr, bstr]
     clear HLE HTN ho hlast hop hpo;have KL := η fun W (hS : Lib.IsBuilder 115 5 w w (Lib.byteCells T0) W) => jS _ _ T0 W hS
     have KW := η fun W hS hB => jC w w (Lib.byteCells T0) (bstr (32 :: y)) W hS (by rw [Lib.byteCells_length]; rw [hsz]; show T0.length + (y.length + 1) ≤ _; omega) hB
     have K1 := η dU;have K2 : Hid (∀ W, Calls Tryz.prog 95 #[lowV, .string (bstr y)] W fun e w' => e = .returned (.bool true) ∧ Below W W w') := fun W => by
      have := fP y W (by have := HWF.out.2; omega);rw [HWF.out.1] at this;exact this
     have HXT : Hid (Box (wr.alloc (.cells #[.int .u8 3, .string (bstr y), .bool false, .slice none 0 0, .bool false, .slice none 0 0] 87)) wr [.int .u8 3, .string (bstr y), .bool false, .slice none 0 0, .bool false, .slice none 0 0]) := Box.new wr #[.int .u8 3, .string (bstr y), .bool false, .slice none 0 0, .bool false, .slice none 0 0] 87;have hzt : wr < (wr.alloc (.cells #[.int .u8 3, .string (bstr y), .bool false, .slice none 0 0, .bool false, .slice none 0 0] 87)).heap.size := by simp
     go_wp2_with fail;refine zE (w0 := (wr.alloc (.cells #[.int .u8 3, .string (bstr y), .bool false, .slice none 0 0, .bool false, .slice none 0 0] 87))) [(7, .pointer (some ⟨wr, 0, none⟩)), (24, lowV), (25, .pointer (some ⟨wr, 1, none⟩)), (26, .string (bstr y)), (27, .bool true), (28, .bool false)] [] [7] ?_ ?_
     ·intro T hT W hI;simp only [zA, and_true] at hT;have c1 := (HXT.out.up hI hzt).c 1 _ rfl;have g1 : wr < W.heap.size := νl hzt hI.size
      repeat' first | exact AllO.nil | apply AllO.cons
      all_goals try ((first | refine oV ?_ | refine oN ?_ | refine oG (t := by simp only [hT]) (h := ?_)); simp [go_sem, EvT, hT, c1, g1, valT]; done)
      ·refine opT_r (zO 94 #[] (by simp [go_sem, EvT, hT, c1, g1]) ?_);simp only [valT, hT];exact K1.out W
      ·refine opT_r (zO 95 #[lowV, .string (bstr y)] (by simp [go_sem, EvT, hT, c1, g1]) ?_);simp only [valT, hT];exact K2.out W
     intro wx hb;simp (decide := true) only [putT, valT, look, Act.put, σi, σo, σs, Nat.reduceAdd, if_true, if_false];have HS2 := η (jO HS1.out hb);have HB2 := η (HB1.out.trans (hb.mono (by simp; omega)));have HX2 := η (HXT.out.up hb hzt);have t1 := HX2.out.c 1 _ rfl;have t0 := HX2.out.c 0 _ rfl;have hzx : wr < wx.heap.size := νl hzt hb.size;replace p0 : wx.cell? ⟨b, off + j * 6, none⟩ = _ := (hb.cell (p := ⟨b, off + j * 6, none⟩) (by simp; omega)).trans ((World.cell?_alloc_lt _ _ _ (by omega)).trans p0);clear hb HS1 HB1 HXT K1 K2;have HS1 := HS2;have HB1 := HB2;clear HS2 HB2;have hbx : b < wx := by omega
     go_wp2_with fail;refine (KL.out _ HS1.out).mono ?_;rintro e w' ⟨rfl, rfl⟩;go_wp2_with fail;refine (KW.out _ HS1.out HB1.out.size).mono ?_;rintro e w4 ⟨rfl, hbu4, hb4⟩;rw [hcells.out] at hbu4;have HS4 := η hbu4;have HB4 := η (HB1.out.trans hb4);clear hbu4 hb4 KW KL HS1 HB1;go_wp2_with fail;go_roundg g
     case measure => omega
     case rel => exact ⟨(j + 1) + 1, by have := HG.out; omega, by go_num, rfl, HS4.out, HB4.out⟩
   | nm n =>
    obtain ⟨ng, Az, kz, cz, rfl, hnum⟩ : ∃ ng A k c', cc = [.int .u8 4, .string ⟨#[]⟩, .bool ng, .slice A k c', .bool false, .slice none 0 0] ∧ NumR wr w (.agg #[.bool ng, .slice A k c']) n := hc2;have HNM := η hnum;clear hnum;have f0 := hc3 0 _ rfl;have f1 := hc3 1 _ rfl;have f2 := hc3 2 _ rfl;have f3 := hc3 3 _ rfl;have f4 := hc3 4 _ rfl;have f5 := hc3 5 _ rfl;rw [κz] at f0;clear hc3 hc1;have HS1 : Hid (Lib.IsBuilder 115 5 w w (Lib.byteCells T0) (wr.alloc (.cells #[.int .u8 4, .string ⟨#[]⟩, .bool ng, .slice Az kz cz, .bool false, .slice none 0 0] 87))) := jO HS.out (βA _);have HB1 : Hid (Below w w (wr.alloc (.cells #[.int .u8 4, .string ⟨#[]⟩, .bool ng, .slice Az kz cz, .bool false, .slice none 0 0] 87))) := HB.out.alloc hzw _;by_cases hk0 : k = 0
    ·subst hk0;rw [Nat.zero_mul, κz] at f0;rw [Nat.zero_mul, κz] at f1;rw [Nat.zero_mul, κz] at f2;rw [Nat.zero_mul, κz] at f3;rw [Nat.zero_mul, κz] at f4;rw [Nat.zero_mul, κz] at f5;obtain ⟨o, ho⟩ : ∃ o, o = (l.take 0).getLast? := ⟨_, rfl⟩;have hsep : ∀ t, sepO o t = [] := fun t => by rw [ho]; rfl
     rw [← ho] at HLE HTN;rw [hsep] at HLE HTN;obtain ⟨tt, htt⟩ : ∃ t, t = Lib.itoa n := ⟨_, rfl⟩;have hsz : (bstr tt).size = tt.length := by rw [zQ]
     have HTT2 := η htt;have hle : T0.length + tt.length ≤ 65536 := by
      have h := HLE.out;simp only [tkStr, κa, κc, κn, ← htt] at h;omega
     have d6 : decide ((65536 : Int) < (T0.length : Int) + (tt.length : Int)) = false := κf (by omega);have hcells : Hid (Lib.byteCells T0 ++ Lib.strCells (bstr tt) = Lib.byteCells (fmtT (l.take (0 + 1)))) := by
      show _ = _
      rw [HTN.out]; simp [Lib.byteCells, Lib.strCells, tkStr, bstr, ← HTT2.out]
     clear HLE HTN ho htt;have KL := η fun W (hS : Lib.IsBuilder 115 5 w w (Lib.byteCells T0) W) => jS _ _ T0 W hS
     have KW := η fun W hS hB => jC w w (Lib.byteCells T0) (bstr tt) W hS (by rw [Lib.byteCells_length]; rw [hsz]; show T0.length + tt.length ≤ _; omega) hB
     have KQ := η (kA n ng Az kz cz (wr.alloc (.cells #[.int .u8 4, .string ⟨#[]⟩, .bool ng, .slice Az kz cz, .bool false, .slice none 0 0] 87)) ((HNM.out.alloc hzw _).more HB1.out.size) HWF.out.1 HWF.out.2);rw [← HTT2.out] at KQ;go_wp2_with fail;refine KQ.out.mono ?_;rintro e wx ⟨rfl, hb⟩;have HXT : Hid (Box (wr.alloc (.cells #[.int .u8 4, .string ⟨#[]⟩, .bool ng, .slice Az kz cz, .bool false, .slice none 0 0] 87)) wr [.int .u8 4, .string ⟨#[]⟩, .bool ng, .slice Az kz cz, .bool false, .slice none 0 0]) := Box.new wr #[.int .u8 4, .string ⟨#[]⟩, .bool ng, .slice Az kz cz, .bool false, .slice none 0 0] 87;have HS2 := η (jO HS1.out hb);have HB2 := η (HB1.out.trans (hb.mono (by simp; omega)));have hzx : wr < wx.heap.size := νl (by simp) hb.size;have t0 := (HXT.out.up hb (by simp)).c 0 _ rfl;clear hb HS1 HB1 HXT KQ;have HS1 := HS2;have HB1 := HB2;clear HS2 HB2;have hbx : b < wx := by omega
     go_wp2_with fail;refine (KL.out _ HS1.out).mono ?_;rintro e w' ⟨rfl, rfl⟩;go_wp2_with fail;refine (KW.out _ HS1.out HB1.out.size).mono ?_;rintro e w4 ⟨rfl, hbu4, hb4⟩;rw [hcells.out] at hbu4;have HS4 := η hbu4;have HB4 := η (HB1.out.trans hb4);clear hbu4 hb4 KW KL HS1 HB1;go_wp2_with fail;go_roundg g
     case measure => omega
     case rel => exact ⟨0 + 1, by have := HG.out; omega, by go_num, rfl, HS4.out, HB4.out⟩
    obtain ⟨j, rfl⟩ : ∃ j, k = j + 1 := ⟨k - 1, by omega⟩;obtain ⟨b2, off2, c2, he2, hb2, hd1, hd2, hd3⟩ := HLR.out.at_ j .op (by omega);injection he2 with he2
    injection he2 with he3 he4 _
    subst he3 he4;have p0 := hd3 0 _ hd2.kind;rw [κz] at p0;obtain ⟨o, ho⟩ : ∃ o, o = (l.take (j + 1)).getLast? := ⟨_, rfl⟩;have hlast : o = some (l.getD j .op) := by rw [ho, kL l j (by omega)]
    rw [← ho] at HLE HTN;generalize l.getD j .op = pt at *;clear hd1 hd2 hd3 hk0;by_cases hpo : qI pt = 1
    ·have hop : isOp pt = true := fS hpo;have hsep : ∀ t, sepO o t = [] := fun t => by rw [hlast]; show sepB pt t = []; rw [sepB, hop]; rfl
     rw [hpo] at p0;rw [hsep] at HLE HTN;obtain ⟨tt, htt⟩ : ∃ t, t = Lib.itoa n := ⟨_, rfl⟩;have hsz : (bstr tt).size = tt.length := by rw [zQ]
     have HTT2 := η htt;have hle : T0.length + tt.length ≤ 65536 := by
      have h := HLE.out;simp only [tkStr, κa, κc, κn, ← htt] at h;omega
     have d6 : decide ((65536 : Int) < (T0.length : Int) + (tt.length : Int)) = false := κf (by omega);have hcells : Hid (Lib.byteCells T0 ++ Lib.strCells (bstr tt) = Lib.byteCells (fmtT (l.take ((j + 1) + 1)))) := by
      show _ = _
      rw [HTN.out]; simp [Lib.byteCells, Lib.strCells, tkStr, bstr, ← HTT2.out]
     clear HLE HTN ho hlast hop hpo htt;have KL := η fun W (hS : Lib.IsBuilder 115 5 w w (Lib.byteCells T0) W) => jS _ _ T0 W hS
     have KW := η fun W hS hB => jC w w (Lib.byteCells T0) (bstr tt) W hS (by rw [Lib.byteCells_length]; rw [hsz]; show T0.length + tt.length ≤ _; omega) hB
     have KQ := η (kA n ng Az kz cz (wr.alloc (.cells #[.int .u8 4, .string ⟨#[]⟩, .bool ng, .slice Az kz cz, .bool false, .slice none 0 0] 87)) ((HNM.out.alloc hzw _).more HB1.out.size) HWF.out.1 HWF.out.2);rw [← HTT2.out] at KQ;go_wp2_with fail;refine KQ.out.mono ?_;rintro e wx ⟨rfl, hb⟩;have HXT : Hid (Box (wr.alloc (.cells #[.int .u8 4, .string ⟨#[]⟩, .bool ng, .slice Az kz cz, .bool false, .slice none 0 0] 87)) wr [.int .u8 4, .string ⟨#[]⟩, .bool ng, .slice Az kz cz, .bool false, .slice none 0 0]) := Box.new wr #[.int .u8 4, .string ⟨#[]⟩, .bool ng, .slice Az kz cz, .bool false, .slice none 0 0] 87;have HS2 := η (jO HS1.out hb);have HB2 := η (HB1.out.trans (hb.mono (by simp; omega)));have hzx : wr < wx.heap.size := νl (by simp) hb.size;have t0 := (HXT.out.up hb (by simp)).c 0 _ rfl;replace p0 : wx.cell? ⟨b, off + j * 6, none⟩ = _ := (hb.cell (p := ⟨b, off + j * 6, none⟩) (by simp; omega)).trans ((World.cell?_alloc_lt _ _ _ (by omega)).trans p0);clear hb HS1 HB1 HXT KQ;have HS1 := HS2;have HB1 := HB2;clear HS2 HB2;have hbx : b < wx := by omega
     go_wp2_with fail;refine (KL.out _ HS1.out).mono ?_;rintro e w' ⟨rfl, rfl⟩;go_wp2_with fail;refine (KW.out _ HS1.out HB1.out.size).mono ?_;rintro e w4 ⟨rfl, hbu4, hb4⟩;rw [hcells.out] at hbu4;have HS4 := η hbu4;have HB4 := η (HB1.out.trans hb4);clear hbu4 hb4 KW KL HS1 HB1;go_wp2_with fail;go_roundg g
     case measure => omega
     case rel => exact ⟨(j + 1) + 1, by have := HG.out; omega, by go_num, rfl, HS4.out, HB4.out⟩
    ·have hop : isOp pt = false := nJ hpo;have e1 : (qI pt == 1) = false := βf hpo;have e2 : (qI pt != 1) = true := βt hpo;have hsep : sepO o (.nm n) = [32] := by rw [hlast]; show sepB pt _ = [32]; rw [sepB, hop]; rfl
     rw [hsep] at HLE HTN;obtain ⟨tt, htt⟩ : ∃ t, t = Lib.itoa n := ⟨_, rfl⟩;have ep : ∀ W : World, (Op.stringOp .add ⟨#[32]⟩ (bstr tt)).run Tryz.prog W = .ok (.string (bstr (32 :: tt))) W := fun W => zF [32] tt W (by have h := HLE.out; simp only [tkStr, κa, κc, κn, ← htt] at h ⊢; omega)
     have hsz : (bstr (32 :: tt)).size = (tt.length + 1) := by rw [zQ]; rfl
     have HTT2 := η htt;have hle : T0.length + (tt.length + 1) ≤ 65536 := by
      have h := HLE.out;simp only [tkStr, κa, κc, κn, ← htt] at h;omega
     have d6 : decide ((65536 : Int) < (T0.length : Int) + ((tt.length : Int) + 1)) = false := κf (by omega);have hcells : Hid (Lib.byteCells T0 ++ Lib.strCells (bstr (32 :: tt)) = Lib.byteCells (fmtT (l.take ((j + 1) + 1)))) := by
      show _ = _
      rw [HTN.out]; simp [Lib.byteCells, Lib.strCells, tkStr, bstr, ← HTT2.out]
     clear HLE HTN ho hlast hop hpo htt;have KL := η fun W (hS : Lib.IsBuilder 115 5 w w (Lib.byteCells T0) W) => jS _ _ T0 W hS
     have KW := η fun W hS hB => jC w w (Lib.byteCells T0) (bstr (32 :: tt)) W hS (by rw [Lib.byteCells_length]; rw [hsz]; show T0.length + (tt.length + 1) ≤ _; omega) hB
     have KQ := η (kA n ng Az kz cz (wr.alloc (.cells #[.int .u8 4, .string ⟨#[]⟩, .bool ng, .slice Az kz cz, .bool false, .slice none 0 0] 87)) ((HNM.out.alloc hzw _).more HB1.out.size) HWF.out.1 HWF.out.2);rw [← HTT2.out] at KQ;go_wp2_with fail;refine KQ.out.mono ?_;rintro e wx ⟨rfl, hb⟩;have HXT : Hid (Box (wr.alloc (.cells #[.int .u8 4, .string ⟨#[]⟩, .bool ng, .slice Az kz cz, .bool false, .slice none 0 0] 87)) wr [.int .u8 4, .string ⟨#[]⟩, .bool ng, .slice Az kz cz, .bool false, .slice none 0 0]) := Box.new wr #[.int .u8 4, .string ⟨#[]⟩, .bool ng, .slice Az kz cz, .bool false, .slice none 0 0] 87;have HS2 := η (jO HS1.out hb);have HB2 := η (HB1.out.trans (hb.mono (by simp; omega)));have hzx : wr < wx.heap.size := νl (by simp) hb.size;have t0 := (HXT.out.up hb (by simp)).c 0 _ rfl;replace p0 : wx.cell? ⟨b, off + j * 6, none⟩ = _ := (hb.cell (p := ⟨b, off + j * 6, none⟩) (by simp; omega)).trans ((World.cell?_alloc_lt _ _ _ (by omega)).trans p0);clear hb HS1 HB1 HXT KQ;have HS1 := HS2;have HB1 := HB2;clear HS2 HB2;have hbx : b < wx := by omega
     go_wp2_with fail;refine (KL.out _ HS1.out).mono ?_;rintro e w' ⟨rfl, rfl⟩;go_wp2_with fail;refine (KW.out _ HS1.out HB1.out.size).mono ?_;rintro e w4 ⟨rfl, hbu4, hb4⟩;rw [hcells.out] at hbu4;have HS4 := η hbu4;have HB4 := η (HB1.out.trans hb4);clear hbu4 hb4 KW KL HS1 HB1;go_wp2_with fail;go_roundg g
     case measure => omega
     case rel => exact ⟨(j + 1) + 1, by have := HG.out; omega, by go_num, rfl, HS4.out, HB4.out⟩
end Go.Proofs.YtkfhpefmmhljmaaGreatDoor
