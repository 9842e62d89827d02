/- The text TreG. -/
import Derived.Test.YtmojjfdamdgegaaMg35
import Derived.Test.YtmojjfdamdgegaaMg36
/- tree.Cycles. -/
namespace Go.Proofs.Ytmojjfdamdgegaa
open Go.RowKit
set_option linter.unusedVariables false

/-- A row more. -/
theorem RowsOwn.snoc {w w2 : World} {base : Nat} {v v' u : Value} {rows : List (List Int)} {vs : List Value} {r : List Int} {tmp : Obj} (h1 : vs.length = rows.length) (h2 : w.ownsRow base 25 1 v rows.length vs)
    (h3 : ∀ (i : Nat) (r : List Int), rows[i]? = some r → ∃ u, vs[i]? = some u ∧ w.ownsRow base 3 1 u r.length (r.map (Value.int .i64)))
    (h4 : ∀ (i j : Nat) (u u' : Value), vs[i]? = some u → vs[j]? = some u' → i ≠ j → u.ownBlock = none ∨ u.ownBlock ≠ u'.ownBlock)
    (hu : w.ownsRow base 3 1 u r.length (r.map (Value.int .i64))) (hf : ∀ (i : Nat) (y : Value), vs[i]? = some y → y.ownBlock = none ∨ y.ownBlock ≠ u.ownBlock) (hf' : ∀ (i : Nat) (y : Value), vs[i]? = some y → u.ownBlock = none ∨ u.ownBlock ≠ y.ownBlock)
    (hown : w2.ownsRow base 25 1 v' (rows.length + 1) (vs ++ [u])) (hg : (w.alloc tmp).grownBy w2 v.ownBlock) : RowsOwn w2 base v' (rows ++ [r]) := by
  refine ⟨vs ++ [u], by simp [h1], by simpa using hown, fun i q hq => ?_, fun i j y y' hi hj hij => ?_⟩
  · rw [List.getElem?_append] at hq
    by_cases hl : i < rows.length
    · rw [if_pos hl] at hq
      obtain ⟨x, hx, ho⟩ := h3 i q hq
      exact ⟨x, by rw [List.getElem?_append_left (by omega)]; exact hx, (ho.alloc tmp).kept hg (own_ne h2 ho (by decide))⟩
    · rw [if_neg hl] at hq
      have hi0 : i - rows.length = 0 := by have := mem_lt_one hq; omega
      rw [hi0] at hq
      simp at hq
      subst hq
      exact ⟨u, by rw [List.getElem?_append_right (by omega), show i - vs.length = 0 by omega]; rfl, (hu.alloc tmp).kept hg (own_ne h2 hu (by decide))⟩
  · rw [List.getElem?_append] at hi hj
    by_cases hl : i < vs.length
    · rw [if_pos hl] at hi
      by_cases hl' : j < vs.length
      · rw [if_pos hl'] at hj
        exact h4 i j y y' hi hj hij
      · rw [if_neg hl'] at hj
        have : y' = u := by
          have hj0 := mem_lt_one hj
          rw [show j - vs.length = 0 by omega] at hj
          simpa using hj.symm
        subst this
        exact hf i y hi
    · rw [if_neg hl] at hi
      have hi0 := mem_lt_one hi
      have : y = u := by
        rw [show i - vs.length = 0 by omega] at hi
        simpa using hi.symm
      subst this
      by_cases hl' : j < vs.length
      · rw [if_pos hl'] at hj
        exact hf' j y' hj
      · rw [if_neg hl'] at hj
        have := mem_lt_one hj
        omega

/-- One cycle: the way back in the tree, and its own line. -/
def cycT (ls : List Ln) (tl : List Int) (f : Nat) (x : Int) : List Int :=
  match dfsF ls tl (ls.getD x.toNat (0, 0, 0, 0)).1 f (ls.getD x.toNat (0, 0, 0, 0)).2.1 (-1) (List.replicate ls.length 0) with
  | some (_, t) => t.set x.toNat 1
  | none => []
def cycTo (ls : List Ln) (tl : List Int) (f : Nat) (sv : List Int) (k : Nat) : List (List Int) := ((sv.take k).filter fun x => !hasB tl x).map (cycT ls tl f)
theorem cycTo_succ (ls : List Ln) (tl : List Int) (f : Nat) (sv : List Int) (k : Nat) (h : k < sv.length) : cycTo ls tl f sv (k + 1) = if hasB tl (sv.getD k 0) = true then cycTo ls tl f sv k else cycTo ls tl f sv k ++ [cycT ls tl f (sv.getD k 0)] := by
  unfold cycTo
  rw [List.take_succ_eq_append_getElem h, List.filter_append, getD_eq _ _ _ h, List.filter_cons, List.map_append]
  cases hasB tl sv[k] <;> simp
def CycE (w : World) (rows : List (List Int)) (er : Int) (e : Ending) (w' : World) : Prop := ∃ v, e = .returned (.tuple #[v, .int .i64 er]) ∧ RowsOwn w' w.heap.size v rows ∧ Below w.heap.size w w'
def cycF (nb lf lt : Int) (c m ct j s bl offl n B : Nat) (At : Option Addr) (tt : List Int) (i : Nat) (v : Value) (W : World) : Prop :=
  match i with
  | 0 => v = .agg #[.int .i64 nb, .slice (some ⟨bl, offl, none⟩) m c]
  | 1 => v = .slice At n ct
  | 2 => v = .pointer (some ⟨s, 1, none⟩)
  | 3 => v = .slice (some ⟨bl, offl, none⟩) m c
  | 4 => v = .int .i64 (j : Int)
  | 5 => v = .pointer (some ⟨bl, offl + j * 4, none⟩)
  | 6 => v = .pointer (some ⟨bl, offl + j * 4 + 1, none⟩)
  | 7 => v = .int .i64 lt
  | 8 => v = .pointer (some ⟨s, 1, none⟩)
  | 9 => v = .slice (some ⟨bl, offl, none⟩) m c
  | 10 => v = .int .i64 (j : Int)
  | 11 => v = .pointer (some ⟨bl, offl + j * 4, none⟩)
  | 12 => v = .pointer (some ⟨bl, offl + j * 4, none⟩)
  | 13 => v = .int .i64 lf
  | 14 => W.ownsRow B 3 1 v tt.length (tt.map (Value.int .i64))
  | 15 => W.ownsRow B 3 1 v tt.length (tt.map (Value.int .i64))
  | _ => True
theorem cycF_up {nb lf lt : Int} {c m ct j s bl offl n B : Nat} {At : Option Addr} {tt : List Int} {i : Nat} {v : Value} {W W' : World} (hb : Below W.heap.size W W') (h : cycF nb lf lt c m ct j s bl offl n B At tt i v W) : cycF nb lf lt c m ct j s bl offl n B At tt i v W' := by
  unfold cycF at h ⊢
  split at h
  all_goals first
    | exact h
    | exact ownsRow_below h hb
theorem own_slc {w : World} {base : Nat} {e : TypeId} {size : Nat} {v : Value} {n : Nat} {xs : List Value} (h : w.ownsRow base e size v n xs) : ∃ A c, v = .slice A n c := by
  rcases h.2 with ⟨rfl, h0⟩ | ⟨g, cap, cur, rfl, _⟩
  · exact ⟨none, 0, by rw [h0]⟩
  · exact ⟨_, _, rfl⟩
theorem src_one (W : World) (x : Value) (t : TypeId) : Src (W.alloc (.cells #[x] t)) 1 (some ⟨W.heap.size, 0, none⟩) 1 [x] := by
  refine ⟨rfl, fun _ => ⟨_, rfl, fun j v hv => ?_⟩⟩
  have hj : j = 0 := by have := mem_lt_one hv; omega
  subst hj
  have : (⟨W.heap.size, 0, none⟩ : Addr).add 0 = ⟨W.heap.size, 0, none⟩ := rfl
  rw [this, cell_alloc_at _ _ _ _ _ rfl]
  simpa using hv
theorem info_ints : (Try.prog.info? 25).map (fun i => (i.zero, i.size, i.bytes)) = some (some (.slice none 0 0), 1, 24) := by kernel_rfl

set_option maxRecDepth 100000 in
set_option maxHeartbeats 8000000 in
theorem cycles_ok (nb : Int) (A A' : Option Addr) (c c' : Nat) (ls : List Ln) (out : List Int) (f : Nat) (w : World) (hl : LinesR w w.heap.size A ls) (ho : IntsR w w.heap.size A' out) (hm : ls.length ≤ 1000000) (hn : out.length ≤ 1000000) (he : outsE nb ls out = 0)
    (hd : ∀ x ∈ svcL out ls.length, hasB (treeL nb ls out) x = false → ∃ r t, dfsF ls (treeL nb ls out) (ls.getD x.toNat (0, 0, 0, 0)).1 f (ls.getD x.toNat (0, 0, 0, 0)).2.1 (-1) (List.replicate ls.length 0) = some (r, t)) :
    Calls Try.prog 18 #[.agg #[.int .i64 nb, .slice A ls.length c], .slice A' out.length c'] w (CycE w (cycTo ls (treeL nb ls out) f (svcL out ls.length) (svcL out ls.length).length) 0) := by
  obtain ⟨j0, hj0, hy0, hy1, hy2⟩ := info_parts info_ints
  have ki := fun W hl ho => in_any nb A A' c c' ls out W hl ho hm hn
  rw [inL, if_pos he, he] at ki
  have kt := fun W hl ho => tree_any nb A A' c c' ls out W hl ho hm hn
  rw [he] at kt
  have hsl := svcL_le out ls.length
  have hsv : ∀ k, k < (svcL out ls.length).length → ∃ j : Nat, (svcL out ls.length).getD k 0 = (j : Int) ∧ j < ls.length := fun k hk => by
    have hmm := (svc_mem (check_of_outs he).2 ((svcL out ls.length).getD k 0)).1 (by rw [getD_eq _ _ _ hk]; exact List.getElem_mem hk)
    exact ⟨((svcL out ls.length).getD k 0).toNat, by omega, by omega⟩
  have hdd : ∀ k, k < (svcL out ls.length).length → hasB (treeL nb ls out) ((svcL out ls.length).getD k 0) = false → ∃ r t, dfsF ls (treeL nb ls out) (ls.getD ((svcL out ls.length).getD k 0).toNat (0, 0, 0, 0)).1 f (ls.getD ((svcL out ls.length).getD k 0).toNat (0, 0, 0, 0)).2.1 (-1) (List.replicate ls.length 0) = some (r, t) := fun k hk =>
    hd _ (by rw [getD_eq _ _ _ hk]; exact List.getElem_mem hk)
  obtain ⟨hin1, hin2⟩ := tree_in he
  clear he hd
  generalize treeL nb ls out = tl at *
  generalize svcL out ls.length = sv at *
  have ks := fun X cx a g r t' hd W hl hi => search_any nb A c ls X cx tl a g f r t' W hl hi hin2 hm (by omega) hd
  have KI := Lib.hid ki
  have KT := Lib.hid kt
  have KSS := Lib.hid ks
  have HSV := Lib.hid hsv
  have HDD := Lib.hid hdd
  have HL := Lib.hid hl
  have HO := Lib.hid ho
  clear ki kt ks hsv hdd hl ho hin2
  go_enter Try.func18, Try.ntmps18
  go_wp2_with fail
  have hb0 : Below w.heap.size w (w.alloc (.cells #[.int .i64 nb, .slice A ls.length c] 24)) := (Below.refl _ _).alloc (Nat.le_refl _) _
  refine (KI.out _ (HL.out.upto hb0) (HO.out.upto hb0)).mono ?_
  rintro e w1 ⟨v, rfl, hown, hb⟩
  obtain ⟨Ai, ci, rfl, hI⟩ := ownsRow_ints hown
  have q0 : w1.cell? ⟨w.heap.size, 0, none⟩ = some (.int .i64 nb) := (hb.cell (by simp)).trans (by simp)
  have q1 : w1.cell? ⟨w.heap.size, 1, none⟩ = some (.slice A ls.length c) := (hb.cell (by simp)).trans (by simp)
  have hz : w.heap.size < w1.heap.size := by have := hb.size; simp at this; omega
  have hbt := hb0.trans (hb.mono hb0.size)
  have HIi := Lib.hid hI
  have HL1 := Lib.hid (HL.out.upto hbt)
  have HO1 := Lib.hid (HO.out.upto hbt)
  have HB1 := Lib.hid hbt
  clear hown hI hb hb0 hbt HL HO KI
  go_wp2_with fail
  refine (KT.out _ HL1.out HO1.out).mono ?_
  rintro e w2 ⟨v, rfl, hown, hb⟩
  obtain ⟨At, ct, rfl, hI⟩ := ownsRow_ints hown
  replace q0 := (hb.cell (p := ⟨w.heap.size, 0, none⟩) hz).trans q0
  replace q1 := (hb.cell (p := ⟨w.heap.size, 1, none⟩) hz).trans q1
  have HIj := Lib.hid (HIi.out.upto hb)
  have HIt := Lib.hid hI
  have HL2 := Lib.hid (HL1.out.upto hb)
  have HB2 := Lib.hid (HB1.out.trans (hb.mono HB1.out.size))
  have hz2' : w.heap.size < w2.heap.size := Nat.lt_of_lt_of_le hz hb.size
  have HQ := Lib.hid (And.intro q0 q1)
  clear hown hI hb HIi HL1 HO1 HB1 q0 q1 hz KT
  go_wp2_with fail
  go_loopg [9, 11, 12, 33] sv.length (fun g s9 s11 s12 i wr => ∃ k : Nat, k + g = sv.length ∧ i = .int .i64 k ∧ RowsOwn wr w2.heap.size s9 (cycTo ls tl f sv k) ∧ Below w2.heap.size w2 wr)
  case atStart => exact ⟨0, by omega, rfl, RowsOwn.nil_ _ _, Below.refl _ _⟩
  case round =>
    obtain ⟨k, hkg, rfl, hrow, hbel⟩ := hrel
    have HBW := Lib.hid hbel
    clear hbel
    cases gk with
    | zero =>
      obtain rfl : k = sv.length := by omega
      clear hkg
      have HROW := Lib.hid hrow
      obtain ⟨vs, _, h2, _, _⟩ := hrow
      obtain ⟨A3, c3, rfl⟩ := own_slc h2
      clear h2
      go_wp2_with fail
      go_ret2
      exact ⟨_, rfl, HROW.out.base_ HB2.out.size, HB2.out.trans (HBW.out.mono (by omega))⟩
    | succ g =>
      have hk : k < sv.length := by omega
      have HG := Lib.hid hkg
      clear hkg
      obtain ⟨bi, offi, rfl, hbi, hci⟩ := HIj.out (by omega)
      obtain ⟨j, hj1, hj⟩ := HSV.out k hk
      have hdk := HDD.out k hk
      have ei := (HBW.out.cell (p := ⟨bi, offi + k, none⟩) hbi).trans (hci k hk)
      rw [hj1] at ei hdk
      have HSTEP := Lib.hid ((cycTo_succ ls tl f sv k hk).trans (by rw [hj1]))
      have q0 := (HBW.out.cell (p := ⟨w.heap.size, 0, none⟩) hz2').trans HQ.out.1
      have q1 := (HBW.out.cell (p := ⟨w.heap.size, 1, none⟩) hz2').trans HQ.out.2
      have HLW := Lib.hid (HL2.out.upto HBW.out)
      have HTW := Lib.hid (HIt.out.upto HBW.out)
      have kc := contains_any At ct tl (j : Int) wr wr.heap.size HTW.out (by omega)
      have hzw : w.heap.size < wr.heap.size := Nat.lt_of_lt_of_le hz2' HBW.out.size
      have hpl : (cycTo ls tl f sv k).length ≤ 1000000 := by
        unfold cycTo
        rw [List.length_map]
        have h := List.length_filter_le (fun x => !hasB tl x) (sv.take k)
        rw [List.length_take] at h
        omega
      clear hci hj1
      cases hh : hasB tl (j : Int) with
      | true =>
        rw [hh] at kc
        have HST' := Lib.hid (HSTEP.out.trans (by rw [if_pos hh]))
        have KC := Lib.hid kc
        have HROW := Lib.hid hrow
        clear kc hh hdk HSTEP hrow
        go_wp2_with fail
        refine KC.out.mono ?_
        rintro e w' ⟨rfl, rfl⟩
        go_wp2_with fail
        go_roundg g
        case measure => omega
        case rel => exact ⟨k + 1, by have := HG.out; omega, by go_num, by rw [HST'.out]; exact HROW.out, HBW.out⟩
      | false =>
        rw [hh] at kc
        obtain ⟨r, tt, hdf⟩ := hdk hh
        rw [Int.toNat_natCast] at hdf
        have htl : tt.length = ls.length := by rw [dfsF_length _ _ _ _ _ _ hdf]; simp
        have HST' := Lib.hid (HSTEP.out.trans (by rw [if_neg (by rw [hh]; simp), cycT, Int.toNat_natCast, hdf] : _ = cycTo ls tl f sv k ++ [tt.set j 1]))
        have ks := fun X cx W hl hi => KSS.out X cx (ls.getD j (0, 0, 0, 0)).2.1 (ls.getD j (0, 0, 0, 0)).1 r tt hdf W hl hi
        obtain ⟨bl, offl, rfl, hbl, hcl⟩ := HLW.out (by omega)
        obtain ⟨f0, f1, _, _⟩ := hcl j hj
        generalize (ls.getD j (0, 0, 0, 0)).1 = lf at *
        generalize (ls.getD j (0, 0, 0, 0)).2.1 = lt at *
        generalize cycTo ls tl f sv k = pre at *
        have hblw : bl < wr.heap.size := hbl
        have KS := Lib.hid ks
        have KC := Lib.hid kc
        clear kc hh hdk HSTEP ks hcl hdf hbl
        go_wp2_with fail
        refine KC.out.mono ?_
        rintro e w' ⟨rfl, rfl⟩
        clear KC ei
        go_wp2_with fail
        refine region_eachW (cycF nb lf lt c ls.length ct j w.heap.size bl offl tl.length wr.heap.size At tt) (fun W => Below wr.heap.size wr W) (by kernel_rfl) (by kernel_rfl) (Below.refl _ _).drew ?_ ?_
        · intro i o ho a W hI hdep hrest
          have r2 : a.eval (.tmp 2) = .pointer (some ⟨w.heap.size, 0, none⟩) := hrest 2 (apart_of (by kernel_rfl))
          have r8 : a.eval (.tmp 8) = .slice At tl.length ct := hrest 8 (apart_of (by kernel_rfl))
          have r11 : a.eval (.tmp 11) = .int .i64 (j : Int) := hrest 11 (apart_of (by kernel_rfl))
          clear hrest
          rcases i with _ | _ | _ | _ | _ | _ | _ | _ | _ | _ | _ | _ | _ | _ | _ | _ | i
          · injection ho with ho
            subst ho
            have x0 := (hI.cell (p := ⟨w.heap.size, 0, none⟩) hzw).trans q0
            have x1 := (hI.cell (p := ⟨w.heap.size, 1, none⟩) hzw).trans q1
            refine ⟨fun _ K Q hK => wp_of_value (v := .agg #[.int .i64 nb, .slice (some ⟨bl, offl, none⟩) ls.length c]) ?_ (hK _ _ hI rfl fun _ _ h => h), fun hw => by simp [Region.wanted] at hw⟩
            clear hK hdep hI
            generalize a.eval = ρ at *
            simp [go_sem, r2, x0, x1]
          · injection ho with ho
            subst ho
            refine ⟨fun _ K Q hK => wp_of_value (v := .slice At tl.length ct) ?_ (hK _ _ hI rfl fun _ _ h => h), fun hw => by simp [Region.wanted] at hw⟩
            clear hK hdep hI
            generalize a.eval = ρ at *
            simp [go_sem, r8]
          · injection ho with ho
            subst ho
            refine ⟨fun _ K Q hK => wp_of_value (v := .pointer (some ⟨w.heap.size, 1, none⟩)) ?_ (hK _ _ hI rfl fun _ _ h => h), fun hw => by simp [Region.wanted] at hw⟩
            clear hK hdep hI
            generalize a.eval = ρ at *
            simp [go_sem, r2]
          · injection ho with ho
            subst ho
            have e2 : a.eval (.tmp 42) = .pointer (some ⟨w.heap.size, 1, none⟩) := (hdep ⟨2, .data⟩ (by simp) rfl _ rfl).1 _ rfl
            have x1 := (hI.cell (p := ⟨w.heap.size, 1, none⟩) hzw).trans q1
            refine ⟨fun _ K Q hK => wp_of_value (v := .slice (some ⟨bl, offl, none⟩) ls.length c) ?_ (hK _ _ hI rfl fun _ _ h => h), fun hw => by simp [Region.wanted] at hw⟩
            clear hK hdep hI
            generalize a.eval = ρ at *
            simp [go_sem, e2, x1]
          · injection ho with ho
            subst ho
            refine ⟨fun _ K Q hK => wp_of_value (v := .int .i64 (j : Int)) ?_ (hK _ _ hI rfl fun _ _ h => h), fun hw => by simp [Region.wanted] at hw⟩
            clear hK hdep hI
            generalize a.eval = ρ at *
            simp [go_sem, r11]
          · injection ho with ho
            subst ho
            have e3 : a.eval (.tmp 43) = .slice (some ⟨bl, offl, none⟩) ls.length c := (hdep ⟨3, .data⟩ (by simp) rfl _ rfl).1 _ rfl
            have e4 : a.eval (.tmp 44) = .int .i64 (j : Int) := (hdep ⟨4, .data⟩ (by simp) rfl _ rfl).1 _ rfl
            refine ⟨fun _ K Q hK => wp_of_value (v := .pointer (some ⟨bl, offl + j * 4, none⟩)) ?_ (hK _ _ hI rfl fun _ _ h => h), fun hw => by simp [Region.wanted] at hw⟩
            clear hK hdep hI
            generalize a.eval = ρ at *
            simp [go_sem, e3, e4, hj]
          · injection ho with ho
            subst ho
            have e5 : a.eval (.tmp 45) = .pointer (some ⟨bl, offl + j * 4, none⟩) := (hdep ⟨5, .data⟩ (by simp) rfl _ rfl).1 _ rfl
            refine ⟨fun _ K Q hK => wp_of_value (v := .pointer (some ⟨bl, offl + j * 4 + 1, none⟩)) ?_ (hK _ _ hI rfl fun _ _ h => h), fun hw => by simp [Region.wanted] at hw⟩
            clear hK hdep hI
            generalize a.eval = ρ at *
            simp [go_sem, e5]
          · injection ho with ho
            subst ho
            have e6 : a.eval (.tmp 46) = .pointer (some ⟨bl, offl + j * 4 + 1, none⟩) := (hdep ⟨6, .data⟩ (by simp) rfl _ rfl).1 _ rfl
            have x3 := (hI.cell (p := ⟨bl, offl + j * 4 + 1, none⟩) hblw).trans f1
            refine ⟨fun _ K Q hK => wp_of_value (v := .int .i64 lt) ?_ (hK _ _ hI rfl fun _ _ h => h), fun hw => by simp [Region.wanted] at hw⟩
            clear hK hdep hI
            generalize a.eval = ρ at *
            simp [go_sem, e6, x3]
          · injection ho with ho
            subst ho
            refine ⟨fun _ K Q hK => wp_of_value (v := .pointer (some ⟨w.heap.size, 1, none⟩)) ?_ (hK _ _ hI rfl fun _ _ h => h), fun hw => by simp [Region.wanted] at hw⟩
            clear hK hdep hI
            generalize a.eval = ρ at *
            simp [go_sem, r2]
          · injection ho with ho
            subst ho
            have e8 : a.eval (.tmp 48) = .pointer (some ⟨w.heap.size, 1, none⟩) := (hdep ⟨8, .data⟩ (by simp) rfl _ rfl).1 _ rfl
            have x1 := (hI.cell (p := ⟨w.heap.size, 1, none⟩) hzw).trans q1
            refine ⟨fun _ K Q hK => wp_of_value (v := .slice (some ⟨bl, offl, none⟩) ls.length c) ?_ (hK _ _ hI rfl fun _ _ h => h), fun hw => by simp [Region.wanted] at hw⟩
            clear hK hdep hI
            generalize a.eval = ρ at *
            simp [go_sem, e8, x1]
          · injection ho with ho
            subst ho
            refine ⟨fun _ K Q hK => wp_of_value (v := .int .i64 (j : Int)) ?_ (hK _ _ hI rfl fun _ _ h => h), fun hw => by simp [Region.wanted] at hw⟩
            clear hK hdep hI
            generalize a.eval = ρ at *
            simp [go_sem, r11]
          · injection ho with ho
            subst ho
            have e9 : a.eval (.tmp 49) = .slice (some ⟨bl, offl, none⟩) ls.length c := (hdep ⟨9, .data⟩ (by simp) rfl _ rfl).1 _ rfl
            have e10 : a.eval (.tmp 50) = .int .i64 (j : Int) := (hdep ⟨10, .data⟩ (by simp) rfl _ rfl).1 _ rfl
            refine ⟨fun _ K Q hK => wp_of_value (v := .pointer (some ⟨bl, offl + j * 4, none⟩)) ?_ (hK _ _ hI rfl fun _ _ h => h), fun hw => by simp [Region.wanted] at hw⟩
            clear hK hdep hI
            generalize a.eval = ρ at *
            simp [go_sem, e9, e10, hj]
          · injection ho with ho
            subst ho
            have e11 : a.eval (.tmp 51) = .pointer (some ⟨bl, offl + j * 4, none⟩) := (hdep ⟨11, .data⟩ (by simp) rfl _ rfl).1 _ rfl
            refine ⟨fun _ K Q hK => wp_of_value (v := .pointer (some ⟨bl, offl + j * 4, none⟩)) ?_ (hK _ _ hI rfl fun _ _ h => h), fun hw => by simp [Region.wanted] at hw⟩
            clear hK hdep hI
            generalize a.eval = ρ at *
            simp [go_sem, e11]
          · injection ho with ho
            subst ho
            have e12 : a.eval (.tmp 52) = .pointer (some ⟨bl, offl + j * 4, none⟩) := (hdep ⟨12, .data⟩ (by simp) rfl _ rfl).1 _ rfl
            have x3 := (hI.cell (p := ⟨bl, offl + j * 4, none⟩) hblw).trans f0
            refine ⟨fun _ K Q hK => wp_of_value (v := .int .i64 lf) ?_ (hK _ _ hI rfl fun _ _ h => h), fun hw => by simp [Region.wanted] at hw⟩
            clear hK hdep hI
            generalize a.eval = ρ at *
            simp [go_sem, e12, x3]
          · injection ho with ho
            subst ho
            have e0 : a.eval (.tmp 40) = .agg #[.int .i64 nb, .slice (some ⟨bl, offl, none⟩) ls.length c] := (hdep ⟨0, .data⟩ (by simp) rfl _ rfl).1 _ rfl
            have e1 : a.eval (.tmp 41) = .slice At tl.length ct := (hdep ⟨1, .data⟩ (by simp) rfl _ rfl).1 _ rfl
            have e7 : a.eval (.tmp 47) = .int .i64 lt := (hdep ⟨7, .data⟩ (by simp) rfl _ rfl).1 _ rfl
            have e13 : a.eval (.tmp 53) = .int .i64 lf := (hdep ⟨13, .data⟩ (by simp) rfl _ rfl).1 _ rfl
            have hfn : ∀ f, a.eval (.func f) = .func (.func f) #[] #[] := fun _ => rfl
            refine ⟨fun _ K Q hK => wp_of_enter (w' := W) (f := 41) (args := #[.agg #[.int .i64 nb, .slice (some ⟨bl, offl, none⟩) ls.length c], .slice At tl.length ct, .int .i64 lt, .int .i64 lf]) (R := fun v w' => W.heap.size ≤ w'.heap.size ∧ w'.ownsRow W.heap.size 3 1 v tt.length (tt.map (Value.int .i64)) ∧ Below W.heap.size W w') ?_ ?_ ?_, fun hw => by simp [Region.wanted] at hw⟩
            · clear hK hdep hI
              generalize a.eval = ρ at *
              simp [go_sem, e0, e1, e7, e13, hfn]
            · exact (KS.out _ _ W (HLW.out.upto hI) (HTW.out.upto hI)).mono fun e w' ⟨v, he, ho, hb⟩ => ⟨v, he, hb.size, ho, hb⟩
            · rintro v w' ⟨_, ho, hb⟩
              exact hK v w' (hI.trans (hb.mono hI.size)) (ownsRow_base ho hI.size) fun jj u h => cycF_up hb h
          · injection ho with ho
            subst ho
            have e14 : wr.heap.size ≤ W.heap.size ∧ W.ownsRow wr.heap.size 3 1 (a.eval (.tmp 54)) tt.length (tt.map (Value.int .i64)) := ⟨hI.size, (hdep ⟨14, .data⟩ (by simp) rfl _ rfl).1 _ rfl⟩
            obtain ⟨u, hu⟩ : ∃ u, a.eval (.tmp 54) = u := ⟨_, rfl⟩
            rw [hu] at e14
            refine ⟨fun _ K Q hK => wp_of_value (v := u) ?_ (hK _ _ hI e14.2 fun _ _ h => h), fun hw => by simp [Region.wanted] at hw⟩
            clear hK hdep hI
            generalize a.eval = ρ at *
            simp [go_sem, hu]
          · simp at ho
        · intro vs W hI hF
          have h15 : W.ownsRow wr.heap.size 3 1 (vs 15) tt.length (tt.map (Value.int .i64)) := hF 15 (by decide)
          obtain ⟨gu, cu, hu⟩ : ∃ gu cu, vs 15 = .slice (some ⟨gu, 0, none⟩) tt.length cu := by
            rcases h15.2 with ⟨_, h0⟩ | ⟨g, cap, cur, h, _⟩
            · omega
            · exact ⟨g, cap, h⟩
          rw [hu] at h15
          have hgu := (h15.lt gu rfl).1
          have hst := (h15.stored j (.int .i64 1)).1
          rw [← List.map_set] at hst
          have hc := h15.cellAt j (by omega)
          have hcx : ∃ x, W.cell? ⟨gu, j, none⟩ = some x := ⟨(tt.map (Value.int .i64))[j]'(by simp; omega), by rw [hc]; exact List.getElem?_eq_getElem _⟩
          obtain ⟨xc, hxc⟩ := hcx
          have hfz := h15.frozenAt j
          have hbW2 : Below wr.heap.size wr (W.setCell ⟨gu, j, none⟩ (.int .i64 1)) := hI.setCell (p := ⟨gu, j, none⟩) hgu _
          obtain ⟨xs, h1, h2, h3, h4⟩ := hrow
          have hfresh : ∀ (i : Nat) (y : Value), xs[i]? = some y → ∀ b, y.ownBlock = some b → b < wr.heap.size := fun i y hy b hb => by
            have hi : i < pre.length := by rw [← h1]; exact (List.getElem?_eq_some_iff.1 hy).1
            obtain ⟨u, hu', ho⟩ := h3 i _ (List.getElem?_eq_getElem hi)
            rw [hy] at hu'
            injection hu' with hu'
            subst hu'
            exact (ho.lt b hb).2
          have h2' := ownsRow_below h2 hbW2
          have h3' : ∀ (i : Nat) (r : List Int), pre[i]? = some r → ∃ u, xs[i]? = some u ∧ (W.setCell ⟨gu, j, none⟩ (.int .i64 1)).ownsRow w2.heap.size 3 1 u r.length (r.map (Value.int .i64)) := fun i r hr => by
            obtain ⟨u, hu', ho⟩ := h3 i r hr
            exact ⟨u, hu', ownsRow_below ho hbW2⟩
          obtain ⟨A3, c3, rfl⟩ := own_slc h2
          have hsz2 := HBW.out.size
          have hu2 : (W.setCell ⟨gu, j, none⟩ (.int .i64 1)).ownsRow w2.heap.size 3 1 (.slice (some ⟨gu, 0, none⟩) tt.length cu) (tt.set j 1).length ((tt.set j 1).map (Value.int .i64)) := by
            rw [List.length_set]; exact ownsRow_base hst hsz2
          have HFR := Lib.hid hfresh
          have HU2 := Lib.hid hu2
          have H3 := Lib.hid h3'
          have H4 := Lib.hid h4
          have H1 := Lib.hid h1
          have HB4 := Lib.hid (HBW.out.trans (hbW2.mono hsz2))
          have hs4 := HB4.out.size
          clear hF h2 h3 h3' h4 h15 hst hfresh hu2 hc hbW2 q0 q1 f0 f1 HLW HTW
          simp only [putAll, Act.put, List.setIfInBounds_toArray, List.set_cons_zero, List.set_cons_succ, Nat.reduceAdd]
          rw [hu]
          have i1 : (0 : Int) ≤ (j : Int) := by omega
          have i2 : (j : Int) < (tt.length : Int) := by omega
          have hjt : j < tt.length := by omega
          clear hu htl
          go_upto_region 14 with fail
          generalize W.setCell ⟨gu, j, none⟩ (.int .i64 1) = W2 at *
          go_wp2_with (at_builtin; refine wpList_append_any _ rfl (.tmp 58) (.tmp 60) _ rfl w2.heap.size 25 j0 _ 1 24 Try.underlying31 hj0 hy0 hy1 hy2 rfl (by omega) (.slice A3 pre.length c3) pre.length xs rfl (h2'.alloc _) (some ⟨W2.heap.size, 0, none⟩) 1 1 [.slice (some ⟨gu, 0, none⟩) tt.length cu] rfl (src_one _ _ _) (by simp [Value.oneCell']) (by simp only [maxLen]; omega) (by omega) (by simp; omega) ?_; intro v' w5 hown' hgrow _)
          have hb5 := below_append h2' hs4 hgrow
          have hnew := RowsOwn.snoc H1.out h2' H3.out H4.out HU2.out (fun i y hy => by
            cases hyb : y.ownBlock with
            | none => exact .inl rfl
            | some b => right; intro e; have := HFR.out i y hy b hyb; simp [Value.ownBlock] at e; omega) (fun i y hy => by
            right; intro e; have := HFR.out i y hy gu e.symm; omega) hown' hgrow
          have HNEW := Lib.hid hnew
          clear hgrow hown' hnew h2'
          go_wp2_with fail
          go_roundg g
          case measure => omega
          case rel => exact ⟨k + 1, by have := HG.out; omega, by go_num, by rw [HST'.out]; exact HNEW.out, HB4.out.trans hb5⟩
end Go.Proofs.Ytmojjfdamdgegaa
