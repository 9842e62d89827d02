/- cmp.Compare, cmp.Or and the comparing closure of outage.Normal. -/
import Derived.Test.YtklfijhlibpmaaaOgB
import Derived.Test.YtklfijhlibpmaaaAnyW
import Derived.Sort.Grow
namespace Go.Proofs.Ytklfijhlibpmaaa
open Go.RowKit Go.Sort
set_option linter.unusedVariables false

def cmpI (x y : Int) : Int := if x < y then -1 else if y < x then 1 else 0
/-- The first that is not 0. -/
def orI : List Int → Int
  | [] => 0
  | x :: l => if x = 0 then orI l else x
/-- The closure's answer. -/
def ogCmp (a b : Og) : Int := orI [cmpI a.1 b.1, cmpI a.2.1 b.2.1, cmpI a.2.2.1 b.2.2.1]

set_option maxHeartbeats 1000000 in
theorem nan_u8 (x : Int) (w : World) : Calls Try.prog 32 #[.int .u8 x] w fun e w' => e = .returned (.bool false) ∧ w' = w := by
  have hx : (x != x) = false := bne_self_eq_false x
  go_enter Try.func32, Try.ntmps32
  go_wp2
  go_ret
  exact ⟨by simp, rfl⟩
set_option maxHeartbeats 1000000 in
theorem cmp_u8 (x y : Int) (w : World) : Calls Try.prog 24 #[.int .u8 x, .int .u8 y] w fun e w' => e = .returned (.int .i64 (cmpI x y)) ∧ w' = w := by
  have K1 := Lib.hid (nan_u8 x w)
  have K2 := Lib.hid (nan_u8 y w)
  by_cases h1 : x < y
  · have h1' : decide (x < y) = true := decide_eq_true h1
    rw [cmpI, if_pos h1]
    go_enter Try.func24, Try.ntmps24
    go_wp2_with fail
    refine K1.out.mono ?_
    rintro e w' ⟨rfl, rfl⟩
    go_wp2_with fail
    refine K2.out.mono ?_
    rintro e w' ⟨rfl, rfl⟩
    go_wp2_with fail
    go_ret
    exact ⟨rfl, rfl⟩
  have h1' : decide (x < y) = false := decide_eq_false h1
  rw [cmpI, if_neg h1]
  by_cases h2 : y < x
  · have h2' : decide (y < x) = true := decide_eq_true h2
    rw [if_pos h2]
    go_enter Try.func24, Try.ntmps24
    go_wp2_with fail
    refine K1.out.mono ?_
    rintro e w' ⟨rfl, rfl⟩
    go_wp2_with fail
    refine K2.out.mono ?_
    rintro e w' ⟨rfl, rfl⟩
    go_wp2_with fail
    go_ret
    exact ⟨rfl, rfl⟩
  · have h2' : decide (y < x) = false := decide_eq_false h2
    rw [if_neg h2]
    go_enter Try.func24, Try.ntmps24
    go_wp2_with fail
    refine K1.out.mono ?_
    rintro e w' ⟨rfl, rfl⟩
    go_wp2_with fail
    refine K2.out.mono ?_
    rintro e w' ⟨rfl, rfl⟩
    go_wp2_with fail
    go_ret
    exact ⟨rfl, rfl⟩

set_option maxHeartbeats 1000000 in
theorem nan_i64 (x : Int) (w : World) : Calls Try.prog 33 #[.int .i64 x] w fun e w' => e = .returned (.bool false) ∧ w' = w := by
  have hx : (x != x) = false := bne_self_eq_false x
  go_enter Try.func33, Try.ntmps33
  go_wp2
  go_ret
  exact ⟨by simp, rfl⟩
set_option maxHeartbeats 1000000 in
theorem cmp_i64 (x y : Int) (w : World) : Calls Try.prog 25 #[.int .i64 x, .int .i64 y] w fun e w' => e = .returned (.int .i64 (cmpI x y)) ∧ w' = w := by
  have K1 := Lib.hid (nan_i64 x w)
  have K2 := Lib.hid (nan_i64 y w)
  by_cases h1 : x < y
  · have h1' : decide (x < y) = true := decide_eq_true h1
    rw [cmpI, if_pos h1]
    go_enter Try.func25, Try.ntmps25
    go_wp2_with fail
    refine K1.out.mono ?_
    rintro e w' ⟨rfl, rfl⟩
    go_wp2_with fail
    refine K2.out.mono ?_
    rintro e w' ⟨rfl, rfl⟩
    go_wp2_with fail
    go_ret
    exact ⟨rfl, rfl⟩
  have h1' : decide (x < y) = false := decide_eq_false h1
  rw [cmpI, if_neg h1]
  by_cases h2 : y < x
  · have h2' : decide (y < x) = true := decide_eq_true h2
    rw [if_pos h2]
    go_enter Try.func25, Try.ntmps25
    go_wp2_with fail
    refine K1.out.mono ?_
    rintro e w' ⟨rfl, rfl⟩
    go_wp2_with fail
    refine K2.out.mono ?_
    rintro e w' ⟨rfl, rfl⟩
    go_wp2_with fail
    go_ret
    exact ⟨rfl, rfl⟩
  · have h2' : decide (y < x) = false := decide_eq_false h2
    rw [if_neg h2]
    go_enter Try.func25, Try.ntmps25
    go_wp2_with fail
    refine K1.out.mono ?_
    rintro e w' ⟨rfl, rfl⟩
    go_wp2_with fail
    refine K2.out.mono ?_
    rintro e w' ⟨rfl, rfl⟩
    go_wp2_with fail
    go_ret
    exact ⟨rfl, rfl⟩

set_option maxHeartbeats 2000000 in
theorem or_any (A : Option Addr) (c : Nat) (xs : List Int) (w : World) (hl : IntsR w w.heap.size A xs) (hm : xs.length ≤ 1000000) :
    Calls Try.prog 23 #[.slice A xs.length c] w fun e w' => e = .returned (.int .i64 (orI xs)) ∧ w' = w := by
  have HL := Lib.hid hl
  clear hl
  go_enter Try.func23, Try.ntmps23
  go_wp2_with fail
  go_loopg [2, 5, 8] xs.length (fun g s2 s5 i wr => ∃ k : Nat, k + g = xs.length ∧ i = .int .i64 k ∧ s2 = .int .i64 0 ∧ orI xs = orI (xs.drop k) ∧ w = wr)
  case atStart => exact ⟨0, by omega, rfl, rfl, by rw [List.drop_zero], rfl⟩
  case round =>
    obtain ⟨k, hkg, rfl, rfl, hd, rfl⟩ := hrel
    have HD := Lib.hid hd
    clear hd
    cases gk with
    | zero =>
      obtain rfl : k = xs.length := by omega
      clear hkg
      go_wp2_with fail
      go_ret
      exact ⟨ret_int (by rw [HD.out, List.drop_length, orI]), rfl⟩
    | succ g =>
      have hk : k < xs.length := by omega
      have HG := Lib.hid hkg
      clear hkg
      obtain ⟨b, off, rfl, hb, hc⟩ := HL.out (by omega)
      have f0 := hc k hk
      clear hc
      have hD : orI (xs.drop k) = if xs.getD k 0 = 0 then orI (xs.drop (k + 1)) else xs.getD k 0 := by
        rw [List.drop_eq_getElem_cons hk, orI, getD_eq xs k 0 hk]
      by_cases h : xs.getD k 0 = 0
      · have h' : (xs.getD k 0 != 0) = false := by rw [bne_eq_false_iff_eq]; exact h
        rw [if_pos h] at hD
        have HE := Lib.hid (HD.out.trans hD)
        clear h hD
        generalize xs.getD k 0 = x at *
        go_wp2_with fail
        go_roundg g
        case measure => omega
        case rel => exact ⟨k + 1, by have := HG.out; omega, by go_num, rfl, HE.out, rfl⟩
      · have h' : (xs.getD k 0 != 0) = true := by rw [bne_iff_ne]; exact h
        rw [if_neg h] at hD
        have HE := Lib.hid (HD.out.trans hD)
        clear h hD
        generalize xs.getD k 0 = x at *
        go_wp2_with fail
        go_ret
        exact ⟨ret_int HE.out.symm, rfl⟩

/-- Between the closure's operations: draws and new blocks alone. -/
def GrownF (w W : World) : Prop := ∃ q os, W = grow (w.drewN q) os
theorem GrownF.refl (w : World) : GrownF w w := ⟨0, #[], by simp [World.drewN]⟩
theorem GrownF.drew {w W : World} (h : GrownF w W) : GrownF w W.drew := by
  obtain ⟨q, os, rfl⟩ := h
  refine ⟨q + 1, os, ?_⟩
  rw [drew_grow]
  rfl
theorem GrownF.alloc {w W : World} (h : GrownF w W) (o : Obj) : GrownF w (W.alloc o) := by
  obtain ⟨q, os, rfl⟩ := h
  exact ⟨q, os ++ #[o], by rw [alloc_eq_grow, grow_grow]⟩
theorem GrownF.cell {w W : World} (h : GrownF w W) {p : Addr} (hp : p.block < w.heap.size) : W.cell? p = w.cell? p := by
  obtain ⟨q, os, rfl⟩ := h
  rw [cell?_grow _ _ _ (by exact hp)]
  rfl
theorem GrownF.trans {a b c : World} (h : GrownF a b) (k : GrownF b c) : GrownF a c := by
  obtain ⟨q, os, rfl⟩ := h
  obtain ⟨q', os', rfl⟩ := k
  refine ⟨q + q', os ++ os', ?_⟩
  show grow (grow ((a.drewN q).drewN q') os) os' = _
  rw [grow_grow, World.drewN_drewN]
def CloF (a b : Og) (s : Nat) (j : Nat) (v : Value) (W : World) : Prop :=
  match j with
  | 0 => v = .pointer (some ⟨s, 0, none⟩)
  | 1 => v = .int .u8 a.1
  | 2 => v = .pointer (some ⟨s + 1, 0, none⟩)
  | 3 => v = .int .u8 b.1
  | 4 => v = .int .i64 (cmpI a.1 b.1)
  | 5 => v = .pointer (some ⟨s, 1, none⟩)
  | 6 => v = .int .i64 a.2.1
  | 7 => v = .pointer (some ⟨s + 1, 1, none⟩)
  | 8 => v = .int .i64 b.2.1
  | 9 => v = .int .i64 (cmpI a.2.1 b.2.1)
  | 10 => v = .pointer (some ⟨s, 2, none⟩)
  | 11 => v = .int .i64 a.2.2.1
  | 12 => v = .pointer (some ⟨s + 1, 2, none⟩)
  | 13 => v = .int .i64 b.2.2.1
  | 14 => v = .int .i64 (cmpI a.2.2.1 b.2.2.1)
  | 15 => ∃ A, v = .slice A 3 3 ∧ IntsR W W.heap.size A [cmpI a.1 b.1, cmpI a.2.1 b.2.1, cmpI a.2.2.1 b.2.2.1]
  | 16 => v = .int .i64 (ogCmp a b)
  | 17 => v = .int .i64 (ogCmp a b)
  | _ => True
theorem CloF.up {a b : Og} {s j : Nat} {v : Value} {W W' : World} (h : CloF a b s j v W) (hb : Below W.heap.size W W') : CloF a b s j v W' := by
  unfold CloF at h ⊢
  split at h
  all_goals first
    | exact h
    | (obtain ⟨A, h1, h2⟩ := h; exact ⟨A, h1, h2.upto hb⟩)

set_option maxRecDepth 100000 in
set_option maxHeartbeats 4000000 in
theorem clo_any (a b : Og) (w : World) : Calls Try.prog 22 #[ogV a, ogV b] w fun e w' => e = .returned (.int .i64 (ogCmp a b)) ∧ GrownF w w' := by
  have hG : GrownF w (twoOg w a b) := ((GrownF.refl w).alloc _).alloc _
  have hsz : (twoOg w a b).heap.size = w.heap.size + 2 := by simp [twoOg]
  have x0 : (twoOg w a b).cell? ⟨w.heap.size, 0, none⟩ = some (.int .u8 a.1) := by simp [twoOg]
  have x1 : (twoOg w a b).cell? ⟨w.heap.size, 1, none⟩ = some (.int .i64 a.2.1) := by simp [twoOg]
  have x2 : (twoOg w a b).cell? ⟨w.heap.size, 2, none⟩ = some (.int .i64 a.2.2.1) := by simp [twoOg]
  have y0 : (twoOg w a b).cell? ⟨w.heap.size + 1, 0, none⟩ = some (.int .u8 b.1) := by simp [twoOg]
  have y1 : (twoOg w a b).cell? ⟨w.heap.size + 1, 1, none⟩ = some (.int .i64 b.2.1) := by simp [twoOg]
  have y2 : (twoOg w a b).cell? ⟨w.heap.size + 1, 2, none⟩ = some (.int .i64 b.2.2.1) := by simp [twoOg]
  have HX := Lib.hid (And.intro x0 (And.intro x1 (And.intro x2 (And.intro y0 (And.intro y1 y2)))))
  have HG := Lib.hid hG
  have HZ := Lib.hid hsz
  clear x0 x1 x2 y0 y1 y2 hG hsz
  unfold ogV
  go_enter Try.func22, Try.ntmps22
  go_wp2_with fail
  change Code.wp _ _ _ _ (twoOg w a b)
  generalize twoOg w a b = w2 at *
  generalize hs : w.heap.size = s at *
  refine region_eachW (CloF a b s) (GrownF w2) (by kernel_rfl) (by kernel_rfl) (GrownF.refl _).drew ?_ ?_
  · intro iq oq ho aq W hI hdep hrest
    have r2 : aq.eval (.tmp 2) = .pointer (some ⟨s, 0, none⟩) := hrest 2 (apart_of (by kernel_rfl))
    have r3 : aq.eval (.tmp 3) = .pointer (some ⟨s + 1, 0, none⟩) := hrest 3 (apart_of (by kernel_rfl))
    have hfn : ∀ f, aq.eval (.func f) = .func (.func f) #[] #[] := fun _ => rfl
    clear hrest
    have hz := HZ.out
    obtain ⟨x0, x1, x2, y0, y1, y2⟩ := HX.out
    have hcx : ∀ o, W.cell? ⟨s, o, none⟩ = w2.cell? ⟨s, o, none⟩ := fun o => hI.cell (p := ⟨s, o, none⟩) (by show s < _; omega)
    have hcy : ∀ o, W.cell? ⟨s + 1, o, none⟩ = w2.cell? ⟨s + 1, o, none⟩ := fun o => hI.cell (p := ⟨s + 1, o, none⟩) (by show s + 1 < _; omega)
    rw [← hcx] at x0 x1 x2
    rw [← hcy] at y0 y1 y2
    clear hcx hcy hz
    rcases iq with _ | _ | _ | _ | _ | _ | _ | _ | _ | _ | _ | _ | _ | _ | _ | _ | _ | _ | iq
    · injection ho with ho
      subst ho
      refine ⟨fun _ K Q hK => wp_of_value (v := .pointer (some ⟨s, 0, none⟩)) ?_ (hK _ _ hI rfl fun _ _ h => h), fun hw => by simp [Region.wanted] at hw⟩
      clear hK hdep hI
      generalize aq.eval = ρ at *
      simp [go_sem, r2]
    · injection ho with ho
      subst ho
      have d0 : aq.eval (.tmp 5) = .pointer (some ⟨s, 0, none⟩) := (hdep ⟨0, .data⟩ (by simp) rfl _ rfl).1 _ rfl
      refine ⟨fun _ K Q hK => wp_of_value (v := .int .u8 a.1) ?_ (hK _ _ hI rfl fun _ _ h => h), fun hw => by simp [Region.wanted] at hw⟩
      clear hK hdep hI
      generalize aq.eval = ρ at *
      simp [go_sem, d0, x0]
    · injection ho with ho
      subst ho
      refine ⟨fun _ K Q hK => wp_of_value (v := .pointer (some ⟨s + 1, 0, none⟩)) ?_ (hK _ _ hI rfl fun _ _ h => h), fun hw => by simp [Region.wanted] at hw⟩
      clear hK hdep hI
      generalize aq.eval = ρ at *
      simp [go_sem, r3]
    · injection ho with ho
      subst ho
      have d2 : aq.eval (.tmp 7) = .pointer (some ⟨s + 1, 0, none⟩) := (hdep ⟨2, .data⟩ (by simp) rfl _ rfl).1 _ rfl
      refine ⟨fun _ K Q hK => wp_of_value (v := .int .u8 b.1) ?_ (hK _ _ hI rfl fun _ _ h => h), fun hw => by simp [Region.wanted] at hw⟩
      clear hK hdep hI
      generalize aq.eval = ρ at *
      simp [go_sem, d2, y0]
    · injection ho with ho
      subst ho
      have d1 : aq.eval (.tmp 6) = .int .u8 a.1 := (hdep ⟨1, .data⟩ (by simp) rfl _ rfl).1 _ rfl
      have d3 : aq.eval (.tmp 8) = .int .u8 b.1 := (hdep ⟨3, .data⟩ (by simp) rfl _ rfl).1 _ rfl
      refine ⟨fun _ K Q hK => wp_of_enter (f := 24) (args := #[.int .u8 a.1, .int .u8 b.1]) (w' := W) (R := fun v w'' => v = .int .i64 (cmpI a.1 b.1) ∧ w'' = W) ?_ ((cmp_u8 a.1 b.1 W).mono fun e w'' ⟨he, hw⟩ => ⟨_, he, rfl, hw⟩) ?_, fun hw => by simp [Region.wanted] at hw⟩
      · clear hK hdep hI
        generalize aq.eval = ρ at *
        simp [go_sem, d1, d3, hfn]
      · rintro v w'' ⟨rfl, rfl⟩
        exact hK _ _ hI rfl fun _ _ h => h
    · injection ho with ho
      subst ho
      refine ⟨fun _ K Q hK => wp_of_value (v := .pointer (some ⟨s, 1, none⟩)) ?_ (hK _ _ hI rfl fun _ _ h => h), fun hw => by simp [Region.wanted] at hw⟩
      clear hK hdep hI
      generalize aq.eval = ρ at *
      simp [go_sem, r2]
    · injection ho with ho
      subst ho
      have d5 : aq.eval (.tmp 10) = .pointer (some ⟨s, 1, none⟩) := (hdep ⟨5, .data⟩ (by simp) rfl _ rfl).1 _ rfl
      refine ⟨fun _ K Q hK => wp_of_value (v := .int .i64 a.2.1) ?_ (hK _ _ hI rfl fun _ _ h => h), fun hw => by simp [Region.wanted] at hw⟩
      clear hK hdep hI
      generalize aq.eval = ρ at *
      simp [go_sem, d5, x1]
    · injection ho with ho
      subst ho
      refine ⟨fun _ K Q hK => wp_of_value (v := .pointer (some ⟨s + 1, 1, none⟩)) ?_ (hK _ _ hI rfl fun _ _ h => h), fun hw => by simp [Region.wanted] at hw⟩
      clear hK hdep hI
      generalize aq.eval = ρ at *
      simp [go_sem, r3]
    · injection ho with ho
      subst ho
      have d7 : aq.eval (.tmp 12) = .pointer (some ⟨s + 1, 1, none⟩) := (hdep ⟨7, .data⟩ (by simp) rfl _ rfl).1 _ rfl
      refine ⟨fun _ K Q hK => wp_of_value (v := .int .i64 b.2.1) ?_ (hK _ _ hI rfl fun _ _ h => h), fun hw => by simp [Region.wanted] at hw⟩
      clear hK hdep hI
      generalize aq.eval = ρ at *
      simp [go_sem, d7, y1]
    · injection ho with ho
      subst ho
      have d6 : aq.eval (.tmp 11) = .int .i64 a.2.1 := (hdep ⟨6, .data⟩ (by simp) rfl _ rfl).1 _ rfl
      have d8 : aq.eval (.tmp 13) = .int .i64 b.2.1 := (hdep ⟨8, .data⟩ (by simp) rfl _ rfl).1 _ rfl
      refine ⟨fun _ K Q hK => wp_of_enter (f := 25) (args := #[.int .i64 a.2.1, .int .i64 b.2.1]) (w' := W) (R := fun v w'' => v = .int .i64 (cmpI a.2.1 b.2.1) ∧ w'' = W) ?_ ((cmp_i64 a.2.1 b.2.1 W).mono fun e w'' ⟨he, hw⟩ => ⟨_, he, rfl, hw⟩) ?_, fun hw => by simp [Region.wanted] at hw⟩
      · clear hK hdep hI
        generalize aq.eval = ρ at *
        simp [go_sem, d6, d8, hfn]
      · rintro v w'' ⟨rfl, rfl⟩
        exact hK _ _ hI rfl fun _ _ h => h
    · injection ho with ho
      subst ho
      refine ⟨fun _ K Q hK => wp_of_value (v := .pointer (some ⟨s, 2, none⟩)) ?_ (hK _ _ hI rfl fun _ _ h => h), fun hw => by simp [Region.wanted] at hw⟩
      clear hK hdep hI
      generalize aq.eval = ρ at *
      simp [go_sem, r2]
    · injection ho with ho
      subst ho
      have d10 : aq.eval (.tmp 15) = .pointer (some ⟨s, 2, none⟩) := (hdep ⟨10, .data⟩ (by simp) rfl _ rfl).1 _ rfl
      refine ⟨fun _ K Q hK => wp_of_value (v := .int .i64 a.2.2.1) ?_ (hK _ _ hI rfl fun _ _ h => h), fun hw => by simp [Region.wanted] at hw⟩
      clear hK hdep hI
      generalize aq.eval = ρ at *
      simp [go_sem, d10, x2]
    · injection ho with ho
      subst ho
      refine ⟨fun _ K Q hK => wp_of_value (v := .pointer (some ⟨s + 1, 2, none⟩)) ?_ (hK _ _ hI rfl fun _ _ h => h), fun hw => by simp [Region.wanted] at hw⟩
      clear hK hdep hI
      generalize aq.eval = ρ at *
      simp [go_sem, r3]
    · injection ho with ho
      subst ho
      have d12 : aq.eval (.tmp 17) = .pointer (some ⟨s + 1, 2, none⟩) := (hdep ⟨12, .data⟩ (by simp) rfl _ rfl).1 _ rfl
      refine ⟨fun _ K Q hK => wp_of_value (v := .int .i64 b.2.2.1) ?_ (hK _ _ hI rfl fun _ _ h => h), fun hw => by simp [Region.wanted] at hw⟩
      clear hK hdep hI
      generalize aq.eval = ρ at *
      simp [go_sem, d12, y2]
    · injection ho with ho
      subst ho
      have d11 : aq.eval (.tmp 16) = .int .i64 a.2.2.1 := (hdep ⟨11, .data⟩ (by simp) rfl _ rfl).1 _ rfl
      have d13 : aq.eval (.tmp 18) = .int .i64 b.2.2.1 := (hdep ⟨13, .data⟩ (by simp) rfl _ rfl).1 _ rfl
      refine ⟨fun _ K Q hK => wp_of_enter (f := 25) (args := #[.int .i64 a.2.2.1, .int .i64 b.2.2.1]) (w' := W) (R := fun v w'' => v = .int .i64 (cmpI a.2.2.1 b.2.2.1) ∧ w'' = W) ?_ ((cmp_i64 a.2.2.1 b.2.2.1 W).mono fun e w'' ⟨he, hw⟩ => ⟨_, he, rfl, hw⟩) ?_, fun hw => by simp [Region.wanted] at hw⟩
      · clear hK hdep hI
        generalize aq.eval = ρ at *
        simp [go_sem, d11, d13, hfn]
      · rintro v w'' ⟨rfl, rfl⟩
        exact hK _ _ hI rfl fun _ _ h => h
    · injection ho with ho
      subst ho
      have d4 : aq.eval (.tmp 9) = .int .i64 (cmpI a.1 b.1) := (hdep ⟨4, .data⟩ (by simp) rfl _ rfl).1 _ rfl
      have d9 : aq.eval (.tmp 14) = .int .i64 (cmpI a.2.1 b.2.1) := (hdep ⟨9, .data⟩ (by simp) rfl _ rfl).1 _ rfl
      have d14 : aq.eval (.tmp 19) = .int .i64 (cmpI a.2.2.1 b.2.2.1) := (hdep ⟨14, .data⟩ (by simp) rfl _ rfl).1 _ rfl
      have hb : Below W.heap.size W (W.alloc (.cells #[.int .i64 (cmpI a.1 b.1), .int .i64 (cmpI a.2.1 b.2.1), .int .i64 (cmpI a.2.2.1 b.2.2.1)] 3)) := (Below.refl _ _).alloc (Nat.le_refl _) _
      refine ⟨fun _ K Q hK => wp_of_value (v := .slice (some ⟨W.heap.size, 0, none⟩) 3 3) (w' := W.alloc (.cells #[.int .i64 (cmpI a.1 b.1), .int .i64 (cmpI a.2.1 b.2.1), .int .i64 (cmpI a.2.2.1 b.2.2.1)] 3)) ?_ (hK _ _ (hI.alloc _) ⟨_, rfl, IntsR.litU W _ _ _ rfl⟩ fun _ _ h => h.up hb), fun hw => by simp [Region.wanted] at hw⟩
      clear hK hdep hI hb
      generalize aq.eval = ρ at *
      simp [go_sem, d4, d9, d14]
    · injection ho with ho
      subst ho
      obtain ⟨A, d15, hA⟩ : ∃ A, aq.eval (.tmp 20) = .slice A 3 3 ∧ IntsR W W.heap.size A [cmpI a.1 b.1, cmpI a.2.1 b.2.1, cmpI a.2.2.1 b.2.2.1] := (hdep ⟨15, .data⟩ (by simp) rfl _ rfl).1 _ rfl
      refine ⟨fun _ K Q hK => wp_of_enter (f := 23) (args := #[.slice A 3 3]) (w' := W) (R := fun v w'' => v = .int .i64 (ogCmp a b) ∧ w'' = W) ?_ ((or_any A 3 _ W hA (by simp)).mono fun e w'' ⟨he, hw⟩ => ⟨_, he, rfl, hw⟩) ?_, fun hw => by simp [Region.wanted] at hw⟩
      · clear hK hdep hI hA
        generalize aq.eval = ρ at *
        simp [go_sem, d15, hfn]
      · rintro v w'' ⟨rfl, rfl⟩
        exact hK _ _ hI rfl fun _ _ h => h
    · injection ho with ho
      subst ho
      have d16 : aq.eval (.tmp 21) = .int .i64 (ogCmp a b) := (hdep ⟨16, .data⟩ (by simp) rfl _ rfl).1 _ rfl
      refine ⟨fun _ K Q hK => wp_of_value (v := .int .i64 (ogCmp a b)) ?_ (hK _ _ hI rfl fun _ _ h => h), fun hw => by simp [Region.wanted] at hw⟩
      clear hK hdep hI
      generalize aq.eval = ρ at *
      simp [go_sem, d16]
    · simp at ho
  · intro vs w3 hI hF
    have e17 : vs 17 = .int .i64 (ogCmp a b) := hF 17 (by decide)
    have HI := Lib.hid hI
    clear hF hI
    simp only [putAll, Act.put, List.setIfInBounds_toArray, List.set_cons_zero, List.set_cons_succ, Nat.reduceAdd, e17]
    clear e17
    go_wp2_with fail
    go_ret
    exact ⟨rfl, HG.out.trans HI.out⟩
end Go.Proofs.Ytklfijhlibpmaaa
