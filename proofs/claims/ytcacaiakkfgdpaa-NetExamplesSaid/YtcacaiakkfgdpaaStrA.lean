/- net.Strip. -/
import Derived.Test.YtcacaiakkfgdpaaRevB
import Derived.Test.YtcacaiakkfgdpaaOnly
namespace Go.Proofs.Ytcacaiakkfgdpaa
open Go.RowKit Go.Shelf
set_option linter.unusedVariables false
attribute [local go_sem] Oper.semAt_some

/-- The builtin append under a name of its own: a region's walk then takes what is known of its run. -/
def appendOp (ats : Array TypeId) (ty : TypeId) (args : Array Value) : Sem Value := Builtin.append_ ats ty args
theorem builtin_appendOp {ats : Array TypeId} {ty : TypeId} {cs : Array Bool} {args : Array Value} : builtin .append ats ty cs args = (do pure (.value (← appendOp ats ty args))) := rfl
attribute [local go_sem ↓ 100000] builtin_appendOp

/-- The lines with these numbers. -/
def pick (ls : List Ln) (ks : List Int) : List Ln := ks.map fun k => ls.getD k.toNat (0, 0, 0, 0)
theorem pick_length (ls : List Ln) (ks : List Int) : (pick ls ks).length = ks.length := by simp [pick]
theorem pick_snoc (ls : List Ln) (ks : List Int) (k : Int) : pick ls (ks ++ [k]) = pick ls ks ++ [ls.getD k.toNat (0, 0, 0, 0)] := by simp [pick]
theorem lnCells_snoc (ls : List Ln) (l : Ln) : lnCells (ls ++ [l]) = lnCells ls ++ [.int .i64 l.1, .int .i64 l.2.1, .int .i64 l.2.2.1, .int .i64 l.2.2.2] := by simp [lnCells]

/-- After some rounds: the network box Bm and the list box Bl. -/
def StripJ (nb : Int) (ls : List Ln) (w0 : World) (b0 n1 : Nat) (pre : List Int) (W : World) : Prop :=
  ∃ vm vl, W.heap[b0 + 1]? = some (.cells #[.int .i64 nb, vm] 24 (0, 0)) ∧ Boxed W (b0 + 2) 25 vl ∧
    W.ownsRow n1 51 4 vm pre.length (lnCells (pick ls pre)) ∧ W.ownsRow n1 3 1 vl pre.length (pre.map (Value.int .i64)) ∧ Below (b0 + 1) w0 W ∧ n1 ≤ W.heap.size

theorem row_kept {W W' : World} {base : Nat} {e : TypeId} {size : Nat} {v : Value} {n : Nat} {xs : List Value} {row : Option Nat} (h : W.ownsRow base e size v n xs) (hg : W.grownBy W' row) (hr : ∀ r, row = some r → ∃ o : Obj, W.heap[r]? = some o ∧ o.isCells = false) : W'.ownsRow base e size v n xs := by
  refine h.kept hg ?_
  rcases h.2 with ⟨rfl, _⟩ | ⟨g, cap, cur, rfl, _, hgb, _⟩
  · exact .inl rfl
  · right
    intro e'
    obtain ⟨o, ho, hc⟩ := hr g e'.symm
    rw [hgb] at ho
    cases ho
    cases hc
theorem stripJ_own {α : Type} (f : α → Int) (nb : Int) (ls : List Ln) (w0 : World) (b0 n1 B : Nat) (h0 : b0 + 1 ≤ w0.heap.size) (hB : b0 + 1 ≤ B) : OwnFrom B (fun (pre : List α) W => StripJ nb ls w0 b0 n1 (pre.map f) W) := by
  rintro s W W' row ⟨vm, vl, hm, hl, hrm, hrl, hb, hz⟩ hg hr
  refine ⟨vm, vl, ?_, ?_, row_kept hrm hg (fun r e => (hr r e).2), row_kept hrl hg (fun r e => (hr r e).2), hb.grown hg (Nat.le_trans h0 hb.size) (fun k e => Nat.le_trans hB (hr k e).1), Nat.le_trans hz hg.size⟩
  · refine (hg.block _ (Array.getElem?_eq_some_iff.1 hm).1 (fun e => ?_)).trans hm
    obtain ⟨o, ho, hc⟩ := (hr _ e.symm).2
    rw [hm] at ho
    cases ho
    cases hc
  · refine hl.kept hg (fun e => ?_)
    obtain ⟨o, ho, hc⟩ := (hr _ e.symm).2
    rw [show W.heap[b0 + 2]? = _ from hl] at ho
    cases ho
    cases hc

/-- What lies between the two appends of a round. -/
structure StripM (nb : Int) (ls : List Ln) (b0 n1 : Nat) (ps : List Int) (k : Int) (vl v' : Value) (W w3 : World) : Prop where
  x1 : Boxed w3 (b0 + 2) 25 vl
  x2 : w3.ownsRow n1 3 1 vl ps.length (ps.map (Value.int .i64))
  x3 : w3.heap[b0 + 1]? = some (.cells #[.int .i64 nb, v'] 24 (0, 0))
  x4 : w3.ownsRow n1 51 4 v' (ps.length + 1) (lnCells (pick ls (ps ++ [k])))
  x5 : Below (b0 + 1) W w3
  x6 : KeptBut n1 (b0 + 1) (b0 + 2) W w3
  x7 : KeepsOthers W w3
  x8 : n1 ≤ w3.heap.size

theorem keeps_grown {W w2 : World} {base : Nat} {e : TypeId} {size : Nat} {v : Value} {k : Nat} {xs : List Value} (hrow : W.ownsRow base e size v k xs) (hg : W.grownBy w2 v.ownBlock) : KeepsOthers W w2 := by
  refine KeepsOthers.of_grownBy hg fun j o ej hj => ?_
  rcases hrow.2 with ⟨rfl, _⟩ | ⟨g, cap, cur, rfl, _, hgb, _⟩
  · simp [Value.ownBlock] at ej
  · obtain rfl : g = j := by simpa [Value.ownBlock] using ej
    rw [hgb] at hj; cases hj; rfl
theorem keeps_drew (W : World) : KeepsOthers W W.drew := ⟨Nat.le_refl _, fun _ _ h _ => h⟩

theorem strip_mid {nb : Int} {ls : List Ln} {b0 n1 : Nat} {ps : List Int} {k : Int} {vm vl v' : Value} {W w2 : World} {tmp : Obj} (hvm : W.heap[b0 + 1]? = some (.cells #[.int .i64 nb, vm] 24 (0, 0))) (hvl : Boxed W (b0 + 2) 25 vl)
    (hrm : W.ownsRow n1 51 4 vm ps.length (lnCells (pick ls ps))) (hrl : W.ownsRow n1 3 1 vl ps.length (ps.map (Value.int .i64))) (hz : n1 ≤ W.heap.size) (hn : b0 + 3 ≤ n1)
    (hown : w2.ownsRow n1 51 4 v' (ps.length + 1) (lnCells (pick ls ps) ++ lnCells [ls.getD k.toNat (0, 0, 0, 0)])) (hg : (W.alloc tmp).drew.grownBy w2 vm.ownBlock) :
    StripM nb ls b0 n1 ps k vl v' W (w2.setCell ⟨b0 + 1, 1, none⟩ v') := by
  have hbl : Below n1 W w2 := (((Below.refl n1 W).alloc hz tmp).drew).grown hg (by simp; omega) (fun j ej => (hrm.lt j ej).1)
  have e1 : w2.heap[b0 + 1]? = _ := (hbl.block _ (by omega)).trans hvm
  have e2 : Boxed w2 (b0 + 2) 25 vl := (hbl.block _ (by omega)).trans hvl
  have gs : w2.grownBy (w2.setCell ⟨b0 + 1, 1, none⟩ v') (some (b0 + 1)) := only_setCell (p := ⟨b0 + 1, 1, none⟩) (World.grownBy.refl _ _) (.inl rfl) _
  have hl2 : w2.ownsRow n1 3 1 vl ps.length (ps.map (Value.int .i64)) := ((hrl.alloc tmp).drew).kept hg (own_ne ((hrm.alloc tmp).drew) ((hrl.alloc tmp).drew) (by decide))
  have hne : ∀ {v : Value} {e : TypeId} {size n : Nat} {xs : List Value}, w2.ownsRow n1 e size v n xs → v.ownBlock = none ∨ v.ownBlock ≠ some (b0 + 1) := fun {v} {e} {size} {n} {xs} h => by
    by_cases h0 : v.ownBlock = some (b0 + 1)
    · have := (h.lt _ h0).1
      omega
    · exact .inr h0
  refine ⟨e2.kept gs (by simp), hl2.kept gs (hne hl2), ?_, ?_, ?_, ?_, ?_, ?_⟩
  · have := heap_setCell_same w2 (b0 + 1) 1 _ _ v' e1
    exact this
  · have h4 := hown.kept gs (hne hown)
    rw [pick_snoc, lnCells_snoc]
    simpa [lnCells] using h4
  · exact (hbl.mono (B' := b0 + 1) (by omega)).setCell (p := ⟨b0 + 1, 1, none⟩) (Nat.le_refl _) _
  · intro j hj h1 h2
    exact (Below.heap_setCell w2 ⟨b0 + 1, 1, none⟩ v' j h1).trans (hbl.block j hj)
  · exact (((KeepsOthers.alloc W tmp).trans (keeps_drew _)).trans (keeps_grown ((hrm.alloc tmp).drew) hg)).trans (KeepsOthers.setCell _ _ _)
  · exact Nat.le_trans hz (Nat.le_trans hbl.size (by simp))

theorem strip_end {nb : Int} {ls : List Ln} {b0 n1 : Nat} {ps : List Int} {k : Int} {vl v' vl' : Value} {W0 W w3 w5 : World} {tmp : Obj} (h : StripM nb ls b0 n1 ps k vl v' W w3) (hW : Below (b0 + 1) W0 W) (hn : b0 + 3 ≤ n1)
    (hown : w5.ownsRow n1 3 1 vl' (ps.length + 1) (ps.map (Value.int .i64) ++ [.int .i64 k])) (hg : (w3.alloc tmp).grownBy w5 vl.ownBlock) :
    KeepsOthers W (w5.setCell ⟨b0 + 2, 0, none⟩ vl') ∧ KeptBut n1 (b0 + 1) (b0 + 2) W (w5.setCell ⟨b0 + 2, 0, none⟩ vl') ∧ StripJ nb ls W0 b0 n1 (ps ++ [k]) (w5.setCell ⟨b0 + 2, 0, none⟩ vl') := by
  obtain ⟨x1, x2, x3, x4, x5, x6, x7, x8⟩ := h
  obtain ⟨y1, y2, y3, y4, y5, y6⟩ := box_append x1 (by decide) x2 x8 (by omega) hown hg
  have gs : w5.grownBy (w5.setCell ⟨b0 + 2, 0, none⟩ vl') (some (b0 + 2)) := only_setCell (p := ⟨b0 + 2, 0, none⟩) (World.grownBy.refl _ _) (.inl rfl) _
  have hr : w5.ownsRow n1 51 4 v' (ps.length + 1) (lnCells (pick ls (ps ++ [k]))) := (x4.alloc tmp).kept hg (own_ne (x2.alloc tmp) (x4.alloc tmp) (by decide))
  have hr2 := hr.kept gs (by
    by_cases h0 : v'.ownBlock = some (b0 + 2)
    · have := (hr.lt _ h0).1
      omega
    · exact .inr h0)
  refine ⟨x7.trans y4, fun j hj h1 h2 => (y5 j hj h2 h2).trans (x6 j hj h1 h2), v', vl', ?_, y2, by simpa using hr2, by simpa using y3, (hW.trans x5).trans (y6.mono (by omega)), Nat.le_trans x8 y4.size⟩
  have := y6.block (b0 + 1) (by omega)
  exact this.trans x3

/-- The function's own results, behind the loop. -/
theorem strip_done {nb : Int} {b0 n1 D nl : Nat} {vm vl : Value} {cm cl : List Value} {W0 W : World} (hvm : W.heap[b0 + 1]? = some (.cells #[.int .i64 nb, vm] 24 (0, 0))) (hvl : Boxed W (b0 + 2) 25 vl)
    (hrm : W.ownsRow n1 51 4 vm nl cm) (hrl : W.ownsRow n1 3 1 vl nl cl) (hB : Below (b0 + 1) W0 W) (hn : b0 + 3 ≤ n1) (hD : n1 ≤ D) (hK : W.heap[D]? = some (.deferred (some []))) :
    (((W.setCell ⟨b0 + 1, 0, none⟩ (.int .i64 nb)).setCell ⟨b0 + 1, 1, none⟩ vm).setCell ⟨b0 + 1 + 1, 0, none⟩ vl).drew.heap[D]? = some (.deferred (some [])) ∧
    ((((W.setCell ⟨b0 + 1, 0, none⟩ (.int .i64 nb)).setCell ⟨b0 + 1, 1, none⟩ vm).setCell ⟨b0 + 1 + 1, 0, none⟩ vl).drew.putObj D (.deferred none)).cell? ⟨b0 + 1, 0, none⟩ = some (.int .i64 nb) ∧
    ((((W.setCell ⟨b0 + 1, 0, none⟩ (.int .i64 nb)).setCell ⟨b0 + 1, 1, none⟩ vm).setCell ⟨b0 + 1 + 1, 0, none⟩ vl).drew.putObj D (.deferred none)).cell? ⟨b0 + 1, 1, none⟩ = some vm ∧
    ((((W.setCell ⟨b0 + 1, 0, none⟩ (.int .i64 nb)).setCell ⟨b0 + 1, 1, none⟩ vm).setCell ⟨b0 + 1 + 1, 0, none⟩ vl).drew.putObj D (.deferred none)).cell? ⟨b0 + 1 + 1, 0, none⟩ = some vl ∧
    ((((W.setCell ⟨b0 + 1, 0, none⟩ (.int .i64 nb)).setCell ⟨b0 + 1, 1, none⟩ vm).setCell ⟨b0 + 1 + 1, 0, none⟩ vl).drew.putObj D (.deferred none)).ownsRow n1 51 4 vm nl cm ∧
    ((((W.setCell ⟨b0 + 1, 0, none⟩ (.int .i64 nb)).setCell ⟨b0 + 1, 1, none⟩ vm).setCell ⟨b0 + 1 + 1, 0, none⟩ vl).drew.putObj D (.deferred none)).ownsRow n1 3 1 vl nl cl ∧
    Below (b0 + 1) W0 ((((W.setCell ⟨b0 + 1, 0, none⟩ (.int .i64 nb)).setCell ⟨b0 + 1, 1, none⟩ vm).setCell ⟨b0 + 1 + 1, 0, none⟩ vl).drew.putObj D (.deferred none)) := by
  have m0 : W.cell? ⟨b0 + 1, 0, none⟩ = some (.int .i64 nb) := by simp [World.cell?, hvm]
  have m1 : W.cell? ⟨b0 + 1, 1, none⟩ = some vm := by simp [World.cell?, hvm]
  have m2 : W.cell? ⟨b0 + 1 + 1, 0, none⟩ = some vl := hvl.cell
  have hk : ∀ j, j ≠ b0 + 1 → j ≠ b0 + 1 + 1 → (((W.setCell ⟨b0 + 1, 0, none⟩ (.int .i64 nb)).setCell ⟨b0 + 1, 1, none⟩ vm).setCell ⟨b0 + 1 + 1, 0, none⟩ vl).drew.heap[j]? = W.heap[j]? := fun j h1 h2 =>
    (Below.heap_setCell _ ⟨b0 + 1 + 1, 0, none⟩ _ j h2).trans ((Below.heap_setCell _ ⟨b0 + 1, 1, none⟩ _ j h1).trans (Below.heap_setCell _ ⟨b0 + 1, 0, none⟩ _ j h1))
  have hd := (hk D (by omega) (by omega)).trans hK
  have hcell : ∀ p : Addr, p.block ≠ D → ((((W.setCell ⟨b0 + 1, 0, none⟩ (.int .i64 nb)).setCell ⟨b0 + 1, 1, none⟩ vm).setCell ⟨b0 + 1 + 1, 0, none⟩ vl).drew.putObj D (.deferred none)).cell? p = (((W.setCell ⟨b0 + 1, 0, none⟩ (.int .i64 nb)).setCell ⟨b0 + 1, 1, none⟩ vm).setCell ⟨b0 + 1 + 1, 0, none⟩ vl).cell? p := fun p hp => World.cell?_of_block (World.putObj_heap_other hp)
  have own : ∀ {e : TypeId} {size : Nat} {v : Value} {xs : List Value}, W.ownsRow n1 e size v nl xs → ((((W.setCell ⟨b0 + 1, 0, none⟩ (.int .i64 nb)).setCell ⟨b0 + 1, 1, none⟩ vm).setCell ⟨b0 + 1 + 1, 0, none⟩ vl).drew.putObj D (.deferred none)).ownsRow n1 e size v nl xs := fun {e} {size} {v} {xs} h => by
    refine ownsRow_putObj ?_ _ hd rfl
    refine ⟨h.1, ?_⟩
    rcases h.2 with h2 | ⟨g, cap, cur, rfl, hb, hg, r⟩
    · exact .inl h2
    · exact .inr ⟨g, cap, cur, rfl, hb, (hk g (by omega) (by omega)).trans hg, r⟩
  refine ⟨hd, ?_, ?_, ?_, own hrm, own hrl, ?_⟩
  · rw [hcell _ (by show b0 + 1 ≠ D; omega), World.cell?_setCell_other _ _ _ _ (by simp), World.cell?_setCell_other _ _ _ _ (by simp)]
    exact World.cell?_setCell_same _ _ _ m0
  · rw [hcell _ (by show b0 + 1 ≠ D; omega), World.cell?_setCell_other _ _ _ _ (by simp)]
    refine World.cell?_setCell_same _ _ _ (u := vm) ?_
    rw [World.cell?_setCell_other _ _ _ _ (by simp)]
    exact m1
  · rw [hcell _ (by show b0 + 1 + 1 ≠ D; omega)]
    refine World.cell?_setCell_same _ _ _ (u := vl) ?_
    rw [World.cell?_setCell_other _ _ _ _ (by simp), World.cell?_setCell_other _ _ _ _ (by simp)]
    exact m2
  · have h1 := ((((hB.setCell (p := ⟨b0 + 1, 0, none⟩) (Nat.le_refl _) (.int .i64 nb)).setCell (p := ⟨b0 + 1, 1, none⟩) (Nat.le_refl _) vm).setCell (p := ⟨b0 + 1 + 1, 0, none⟩) (by show b0 + 1 ≤ b0 + 1 + 1; omega) vl)).drew
    have hlt := (Array.getElem?_eq_some_iff.1 hd).1
    exact h1.grown (grownBy_putObj' _ D _) (by omega) (fun k e => by cases e; omega)

/-- A network and a list of numbers of the call's own and an error code come back; nothing that lay has turned. -/
def StripE (w : World) (nb : Int) (ms : List Ln) (ks : List Int) (er : Int) (e : Ending) (w' : World) : Prop :=
  ∃ A c A2 c2, e = .returned (.tuple #[.agg #[.int .i64 nb, .slice A ms.length c], .slice A2 ks.length c2, .int .i64 er]) ∧ w'.ownsRow w.heap.size 51 4 (.slice A ms.length c) ms.length (lnCells ms) ∧
    w'.ownsRow w.heap.size 3 1 (.slice A2 ks.length c2) ks.length (ks.map (Value.int .i64)) ∧ Below w.heap.size w w'

theorem heap3 (w : World) (o1 o2 o3 : Obj) : (((w.alloc o1).alloc o2).alloc o3).heap[w.heap.size]? = some o1 ∧ (((w.alloc o1).alloc o2).alloc o3).heap[w.heap.size + 1]? = some o2 ∧ (((w.alloc o1).alloc o2).alloc o3).heap[w.heap.size + 2]? = some o3 := by
  refine ⟨?_, ?_, ?_⟩
  · exact (Below.heap_alloc _ _ _ (by simp only [World.size_alloc]; omega)).trans ((Below.heap_alloc _ _ _ (by simp only [World.size_alloc]; omega)).trans (heap_alloc_new w o1))
  · have := heap_alloc_new (w.alloc o1) o2
    rw [World.size_alloc] at this
    exact (Below.heap_alloc _ _ _ (by simp only [World.size_alloc]; omega)).trans this
  · have := heap_alloc_new ((w.alloc o1).alloc o2) o3
    rw [World.size_alloc, World.size_alloc] at this
    exact this

set_option maxRecDepth 100000 in
set_option maxHeartbeats 8000000 in
theorem strip_ok (nb : Int) (A A' : Option Addr) (c c' : Nat) (ls : List Ln) (out : List Int) (w : World) (hl : LinesR w w.heap.size A ls) (ho : IntsR w w.heap.size A' out)
    (hm : ls.length ≤ 1000000) (hn : out.length ≤ 1000000) (he : outsE nb ls out = 0) :
    Calls Try.prog 31 #[.agg #[.int .i64 nb, .slice A ls.length c], .slice A' out.length c'] w (StripE w nb (pick ls (svcL out ls.length)) (svcL out ls.length) 0) := by
  obtain ⟨i0, hi, hz0, hz1, hz2⟩ := info_parts info_int
  obtain ⟨j0, hj, hy0, hy1, hy2⟩ := info_parts info_lineR
  have hcall := fun W hl ho => outs_any nb A A' c c' ls out W hl ho hm hn
  rw [he] at hcall
  have HCALL := Lib.hid hcall
  have HL := Lib.hid hl
  have HO := Lib.hid ho
  clear hcall hl ho he
  refine (callsIn_wide (n := 8)).1 ?_
  refine callsIn_of_wp_marks Try.func31 rfl trivial ?_ rfl
  simp only [Try.ntmps31, List.size_toArray, List.length_cons, List.length_nil, Nat.reduceAdd, Nat.reduceSub, Array.replicate_succ, Array.replicate_zero, List.push_toArray, List.append_toArray, List.nil_append, List.cons_append]
  have hB3 : Below w.heap.size w (((w.alloc (.cells #[.int .i64 nb, .slice A ls.length c] 24)).alloc (.cells #[.int .i64 0, .slice none 0 0] 24)).alloc (.cells #[.slice none 0 0] 25)) := (((Below.refl _ _).alloc (Nat.le_refl _) _).alloc (by simp) _).alloc (by simp; omega) _
  have HB3 := Lib.hid hB3
  clear hB3
  gi_wp2_with fail
  refine ⟨trivial, ?_⟩
  refine (callsIn_wide.2 (HCALL.out _ (by exact HL.out.upto HB3.out) (by exact HO.out.upto HB3.out))).mono ?_
  rintro e w1 ⟨rfl, hb1⟩
  have hbs := hb1.size
  simp only [World.size_alloc] at hbs
  obtain ⟨t0, t1, t2⟩ := heap3 w (.cells #[.int .i64 nb, .slice A ls.length c] 24) (.cells #[.int .i64 0, .slice none 0 0] 24) (.cells #[.slice none 0 0] 25)
  have dn := (hb1.block w.heap.size (by simp only [World.size_alloc]; omega)).trans t0
  have d0 := (hb1.block (w.heap.size + 1) (by simp only [World.size_alloc]; omega)).trans t1
  have d1 := (hb1.block (w.heap.size + 2) (by simp only [World.size_alloc]; omega)).trans t2
  have c0 : w1.cell? ⟨w.heap.size, 0, none⟩ = some (.int .i64 nb) := by simp [World.cell?, dn]
  have c1 : w1.cell? ⟨w.heap.size, 1, none⟩ = some (.slice A ls.length c) := by simp [World.cell?, dn]
  clear t0 t1 t2 dn
  have hz : w.heap.size < w1.heap.size := by omega
  have e0 : w1.cell? ⟨w.heap.size + 1, 0, none⟩ = some (.int .i64 0) := by simp [World.cell?, d0]
  have f0 : w1.frozen? ⟨w.heap.size + 1, 0, none⟩ = false := by simp [World.frozen?, d0]
  have HB1 := Lib.hid (HB3.out.trans (hb1.mono HB3.out.size))
  have D0 := Lib.hid d0
  have D1 := Lib.hid d1
  clear hb1 d0 d1
  gi_wp2_with fail
  refine ⟨trivial, ?_⟩
  refine (inService_in _ _ _ _ A A' c c' _ _ _ rfl rfl).mono ?_
  rintro e w' ⟨rfl, rfl⟩
  gi_wp2_with fail
  obtain ⟨W0, hW0⟩ : ∃ W0 : World, W0 = (((w1.setCell ⟨w.heap.size + 1, 0, none⟩ (.int .i64 nb)).alloc (.cells #[.int .i64 nb, .slice A ls.length c] 24)).alloc (.cells #[.slice A' out.length c'] 25)) := ⟨_, rfl⟩
  have hsz : W0.heap.size = w1.heap.size + 2 := by rw [hW0]; simp
  have bN : W0.cell? ⟨w1.heap.size, 1, none⟩ = some (.slice A ls.length c) := by rw [hW0]; exact cell_alloc_of _ (cell_alloc_at _ _ _ _ _ (by simp))
  have bP : W0.cell? ⟨w1.heap.size + 1, 0, none⟩ = some (.slice A' out.length c') := by rw [hW0]; exact cell_alloc_at _ _ _ _ _ (by simp)
  have hB10 : Below (w.heap.size + 1) w1 W0 := by rw [hW0]; exact (((Below.refl _ _).setCell (p := ⟨w.heap.size + 1, 0, none⟩) (Nat.le_refl _) _).alloc (by simp; omega) _).alloc (by simp; omega) _
  have dM : W0.heap[w.heap.size + 1]? = some (.cells #[.int .i64 nb, .slice none 0 0] 24 (0, 0)) := by
    rw [hW0]
    exact (Below.heap_alloc _ _ _ (by simp; omega)).trans ((Below.heap_alloc _ _ _ (by simp; omega)).trans (heap_setCell_same w1 (w.heap.size + 1) 0 _ _ _ D0.out))
  have dL : Boxed W0 (w.heap.size + 2) 25 (.slice none 0 0) := by
    rw [hW0]
    exact (Below.heap_alloc _ _ _ (by simp; omega)).trans ((Below.heap_alloc _ _ _ (by simp; omega)).trans ((heap_setCell_other w1 ⟨w.heap.size + 1, 0, none⟩ (w.heap.size + 2) _ (by show w.heap.size + 2 ≠ w.heap.size + 1; omega)).trans D1.out))
  rw [← hW0]
  have hO0 : IntsR W0 w.heap.size A' out := (HO.out.below HB1.out).below (hB10.mono (by omega))
  have hL0 : LinesR W0 w.heap.size A ls := (HL.out.below HB1.out).below (hB10.mono (by omega))
  have c0' := (hB10.cell (p := ⟨w.heap.size, 0, none⟩) (by show w.heap.size < _; omega)).trans c0
  have c1' := (hB10.cell (p := ⟨w.heap.size, 1, none⟩) (by show w.heap.size < _; omega)).trans c1
  have HB0 := Lib.hid (HB1.out.trans (hB10.mono (by omega)))
  clear hW0 hB10 c0 c1 e0 f0 D0 D1 HB1
  refine wpIn_rangeFunc_ownG rfl (by omega) (gf := 57) (lb := #[.pointer (some ⟨w1.heap.size, 0, none⟩), .pointer (some ⟨w1.heap.size + 1, 0, none⟩)]) (by simp [Act.eval]) trivial (enters_of Try.func57 (by kernel_rfl) rfl)
    (inService_stopsR (8 - 1) (by omega) w1.heap.size (w1.heap.size + 1) w.heap.size (w1.heap.size + 2) (w.heap.size + 1) (w.heap.size + 2) ls.length A A' c c' out hm hn (by omega) (by omega) (by omega) (by omega) (by omega) (by omega) (by omega) (by omega) (by omega) _ (by omega) bN bP hO0) KeptBut.trans (keptBut_put (by omega)) (Below.refl _ _) (fun _ => rfl)
    (fun pre W => StripJ nb ls W0 w.heap.size (w1.heap.size + 2) (pre.map (·.1)) W)
    (fun _ _ _ => False)
    (stripJ_own (fun x : { x : Int // 0 ≤ x ∧ x < (ls.length : Int) } => x.1) nb ls W0 w.heap.size (w1.heap.size + 2) W0.heap.size (by omega) (by omega))
    (fun _ _ _ _ _ hs _ _ => hs)
    ⟨_, _, dM, dL, World.ownsRow_nil _ _ _ _, World.ownsRow_nil _ _ _ _, Below.refl _ _, by omega⟩
    (fun x => { tmps := #[.agg #[.int .i64 nb, .slice A ls.length c], .slice A' out.length c', .pointer (some ⟨w.heap.size, 0, none⟩), undef, .pointer (some ⟨w.heap.size + 1, 0, none⟩), .pointer (some ⟨w.heap.size + 1 + 1, 0, none⟩), .int .i64 0, .int .i64 0, .int .i64 x.1, .agg #[.int .i64 nb, .slice A ls.length c], .slice A' out.length c', .int .i64 0, .int .i64 0, .bool false, undef, undef, .pointer (some ⟨w.heap.size, 0, none⟩), .int .i64 nb, .pointer (some ⟨w.heap.size + 1, 0, none⟩), .agg #[.int .i64 nb, .slice A ls.length c], .slice A' out.length c', .func (.func 57) #[] #[.pointer (some ⟨w1.heap.size, 0, none⟩), .pointer (some ⟨w1.heap.size + 1, 0, none⟩)], .int .i64 x.1, undef, undef, undef, undef, undef, undef, undef, undef, undef, undef, undef, undef, undef, undef, undef, undef], defers := [] }) ?assign ?body ?done ?stop
  case assign =>
    intro l x W K hK
    gi_wp2
    exact hK
  case body =>
    rintro l pre ⟨x, hx0, hx1⟩ W ⟨vm, vl, hvm, hvl, hrm, hrl, hB, hz3⟩ hlt
    obtain ⟨k, rfl⟩ := Int.eq_ofNat_of_zero_le hx0
    have hk : k < ls.length := by omega
    obtain ⟨b, off, rfl, hbb, hcc⟩ := hL0 (by omega)
    obtain ⟨l0, l1, l2, l3⟩ := hcc k hk
    have g0 := (hB.cell (p := ⟨b, off + k * 4, none⟩) (by show b < _; omega)).trans l0
    have g1 := (hB.cell (p := ⟨b, off + k * 4 + 1, none⟩) (by show b < _; omega)).trans l1
    have g2 := (hB.cell (p := ⟨b, off + k * 4 + 2, none⟩) (by show b < _; omega)).trans l2
    have g3 := (hB.cell (p := ⟨b, off + k * 4 + 3, none⟩) (by show b < _; omega)).trans l3
    have c1 := (hB.cell (p := ⟨w.heap.size, 1, none⟩) (by show w.heap.size < _; omega)).trans c1'
    have m1 : W.cell? ⟨w.heap.size + 1, 1, none⟩ = some vm := by simp [World.cell?, hvm]
    clear hcc l0 l1 l2 l3 c0' c1' dM dL bN bP
    have hpl : (pre.map (·.1)).length < 1000000 := by simp; omega
    have HQ := Lib.hid (And.intro hvl (And.intro hrl hB))
    have HM := Lib.hid hvm
    clear hvl hrl hB hvm
    generalize hpre : pre.map (·.1) = ps at *
    have HP := Lib.hid hpre
    clear hpre
    generalize hq0 : (ls.getD k (0, 0, 0, 0)).1 = y0 at *
    generalize hq1 : (ls.getD k (0, 0, 0, 0)).2.1 = y1 at *
    generalize hq2 : (ls.getD k (0, 0, 0, 0)).2.2.1 = y2 at *
    generalize hq3 : (ls.getD k (0, 0, 0, 0)).2.2.2 = y3 at *
    have HY := Lib.hid (And.intro hq0 (And.intro hq1 (And.intro hq2 hq3)))
    clear hq0 hq1 hq2 hq3
    obtain ⟨v', w2, hrun, hown, hgrow, hat⟩ := run_append_any (P := Try.prog) (W.alloc (.cells #[.int .i64 y0, .int .i64 y1, .int .i64 y2, .int .i64 y3] 51)).drew (w1.heap.size + 2) 22 22 51 j0 _ 4 32 Try.underlying22 hj hy0 hy1 hy2 rfl (by omega) vm ps.length _ (hrm.alloc _).drew (some ⟨W.heap.size, 0, none⟩) 1 1 [.int .i64 y0, .int .i64 y1, .int .i64 y2, .int .i64 y3] ⟨rfl, fun _ => ⟨_, rfl, fun j u hu => by
      rcases j with _ | _ | _ | _ | j
      · simp at hu; subst hu; exact cell_alloc_at _ _ _ _ _ rfl
      · simp at hu; subst hu; exact cell_alloc_at _ _ _ _ _ rfl
      · simp at hu; subst hu; exact cell_alloc_at _ _ _ _ _ rfl
      · simp at hu; subst hu; exact cell_alloc_at _ _ _ _ _ rfl
      · simp at hu⟩⟩ (by simp [Value.oneCell']) (by unfold maxLen; omega) (by omega) (by simp; omega)
    replace hrun : (appendOp #[22, 22] 22 #[vm, .slice (some ⟨W.heap.size, 0, none⟩) 1 1]).run Try.prog (W.alloc (.cells #[.int .i64 y0, .int .i64 y1, .int .i64 y2, .int .i64 y3] 51)).drew = .ok v' w2 := hrun
    obtain ⟨g', cap', rfl⟩ := ownsRow_succ hown
    have hmid : StripM nb ls w.heap.size (w1.heap.size + 2) ps (k : Int) vl (.slice (some ⟨g', 0, none⟩) (ps.length + 1) cap') W (w2.setCell ⟨w.heap.size + 1, 1, none⟩ (.slice (some ⟨g', 0, none⟩) (ps.length + 1) cap')) := by
      refine strip_mid HM.out HQ.out.1 hrm HQ.out.2.1 hz3 (by omega) ?_ hgrow
      obtain ⟨a0, a1, a2, a3⟩ := HY.out
      rw [Int.toNat_natCast]
      simpa [lnCells, -List.getD_eq_getElem?_getD, a0, a1, a2, a3] using hown
    have hbl : Below (w1.heap.size + 2) W w2 := (((Below.refl (w1.heap.size + 2) W).alloc hz3 _).drew).grown hgrow (by simp; omega) (fun j ej => (hrm.lt j ej).1)
    have hvm2 : w2.heap[w.heap.size + 1]? = some (.cells #[.int .i64 nb, vm] 24 (0, 0)) := (hbl.block _ (by omega)).trans HM.out
    have m2 : w2.cell? ⟨w.heap.size + 1, 1, none⟩ = some vm := by simp [World.cell?, hvm2]
    have z2 : w2.frozen? ⟨w.heap.size + 1, 1, none⟩ = false := by simp [World.frozen?, hvm2]
    have HMID := Lib.hid hmid
    clear hown hgrow hat hvm2 hbl hmid hrm
    have i1 : (0 : Int) ≤ (k : Int) := by omega
    have i2 : (k : Int) < (ls.length : Int) := by omega
    gi_wp2_with fail
    have hzb : w.heap.size + 1 < W.heap.size := by omega
    gi_region
    all_goals
      clear hrun m2 z2
      generalize w2.setCell ⟨w.heap.size + 1, 1, none⟩ (.slice (some ⟨g', 0, none⟩) (ps.length + 1) cap') = w3 at *
      have hc := HMID.out.x1.cell
      gi_wp2_with (gi_at_builtin; refine wpListIn_append_own _ rfl _ _ 25 rfl (w1.heap.size + 2) 3 i0 (.int .i64 0) 1 8 Try.underlying25 hi hz0 hz1 hz2 rfl (by decide) _ _ _ rfl (HMID.out.x2.alloc _) ⟨w3.heap.size, 0, none⟩ 1 1 [.int .i64 (k : Int)] rfl rfl (cell_one_new _ _ _) (by simp [Value.oneCell']) (by unfold maxLen; omega) (by omega) (by have := HMID.out.x8; simp; omega) ?_; intro v5 w5 hown' hgrow' _; obtain ⟨g5, cap5, rfl⟩ := ownsRow_succ hown'; obtain ⟨y1, y2, y3⟩ := strip_end HMID.out HQ.out.2.2 (by omega) hown' hgrow'; have hv1 := (box_append HMID.out.x1 (by decide) HMID.out.x2 HMID.out.x8 (by omega) hown' hgrow').1; have hc1 := hv1.cell; have hf1 := hv1.frozen; have H5 := Lib.hid (And.intro y1 (And.intro y2 y3)); clear hown' hgrow' y1 y2 y3)
      have e5 : List.map (fun x : { x : Int // 0 ≤ x ∧ x < (ls.length : Int) } => x.1) (pre ++ [⟨(k : Int), hx0, hx1⟩]) = ps ++ [(k : Int)] := by rw [List.map_append, HP.out]; rfl
      refine ⟨H5.out.1.from _, H5.out.2.1, ?_⟩
      show StripJ nb ls W0 w.heap.size (w1.heap.size + 2) (List.map (fun x : { x : Int // 0 ≤ x ∧ x < (ls.length : Int) } => x.1) (pre ++ [⟨(k : Int), hx0, hx1⟩])) _
      rw [e5]
      exact H5.out.2.2
  case done =>
    rintro D ys W hD hys0 ⟨vm, vl, hvm, hvl, hrm, hrl, hB, hz3⟩ hK
    have hys : ys.map (·.1) = svcL out ls.length := hys0
    clear hys0
    rw [hys] at hrm hrl
    obtain ⟨A3, c3, he3, _⟩ := ownsRow_linesR (ls := pick ls (svcL out ls.length)) (by rw [pick_length]; exact hrm)
    rw [pick_length] at he3
    subst he3
    obtain ⟨A4, c4, rfl, hI4⟩ := ownsRow_ints hrl
    clear hI4
    have hfin := strip_done hvm hvl hrm hrl hB (by omega) (show w1.heap.size + 2 ≤ D by omega) hK
    have m0 : W.cell? ⟨w.heap.size + 1, 0, none⟩ = some (.int .i64 nb) := by simp [World.cell?, hvm]
    have m1 : W.cell? ⟨w.heap.size + 1, 1, none⟩ = some (.slice A3 (svcL out ls.length).length c3) := by simp [World.cell?, hvm]
    have s0 : W.frozen? ⟨w.heap.size + 1, 0, none⟩ = false := by simp [World.frozen?, hvm]
    have s1 : W.frozen? ⟨w.heap.size + 1, 1, none⟩ = false := by simp [World.frozen?, hvm]
    have hc := hvl.cell
    have hf := hvl.frozen
    have HF := Lib.hid hfin
    clear hvm hvl hrm hrl hB hz3 hK hys c0' c1' dM dL bN bP hO0 hL0 hfin ys
    generalize hLs : svcL out ls.length = L at *
    clear hLs
    gi_wp2_with fail
    gi_region
    gi_wp2_with fail
    obtain ⟨k0, k1, k2, k3, k4, k5, k6⟩ := HF.out
    refine ⟨by simp, .inl ⟨_, _, rfl, run_takeDeferred k0, ?_⟩⟩
    refine ⟨.tuple #[.agg #[.int .i64 nb, .slice A3 L.length c3], .slice A4 L.length c4, .int .i64 0], ?_, A3, c3, A4, c4, ?_, ?_, ?_, ?_⟩
    · simp [results, Try.results31, go_sem, k1, k2, k3]
    · rw [pick_length]
    · rw [pick_length]; exact ownsRow_base k4 (by omega)
    · exact ownsRow_base k5 (by omega)
    · exact HB0.out.trans (k6.mono (by omega))
  case stop =>
    rintro D c pre W _ _ h _
    exact h.elim
end Go.Proofs.Ytcacaiakkfgdpaa
