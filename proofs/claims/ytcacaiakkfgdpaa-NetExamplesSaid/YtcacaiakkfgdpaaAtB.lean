/- net.At, whatever it is handed. -/
import Derived.Test.YtcacaiakkfgdpaaAtA
namespace Go.Proofs.Ytcacaiakkfgdpaa
open Go.RowKit
set_option linter.unusedVariables false

/-- What At answers. -/
def atE (nb : Int) (ls : List Ln) (out : List Int) (bus : Int) : Int := if outsE nb ls out = 0 then (if busB nb bus = true then 0 else 1) else outsE nb ls out
def atL (nb : Int) (ls : List Ln) (out : List Int) (bus : Int) : List Int := if outsE nb ls out = 0 ∧ busB nb bus = true then atF ls bus (svcL out ls.length) else []

set_option maxHeartbeats 1000000 in
theorem at_any (nb : Int) (A A' : Option Addr) (c c' : Nat) (ls : List Ln) (out : List Int) (bus : Int) (w : World) (hl : LinesR w w.heap.size A ls) (ho : IntsR w w.heap.size A' out)
    (hm : ls.length ≤ 1000000) (hn : out.length ≤ 1000000) :
    Calls Try.prog 22 #[.agg #[.int .i64 nb, .slice A ls.length c], .slice A' out.length c', .int .i64 bus] w (IntsE w (atL nb ls out bus) (atE nb ls out bus)) := by
  by_cases he : outsE nb ls out = 0
  · cases hb : busB nb bus with
    | true =>
      rw [atL, atE, if_pos ⟨he, hb⟩, if_pos he, if_pos hb]
      exact at_ok nb A A' c c' ls out bus w hl ho hm hn he hb
    | false =>
      rw [atL, atE, if_neg (by rw [hb]; simp), if_pos he, if_neg (by rw [hb]; simp)]
      have hcall := fun W hl ho => outs_any nb A A' c c' ls out W hl ho hm hn
      rw [he] at hcall
      have hcb := fun W => isBus_any nb bus (.slice A ls.length c) W
      rw [hb] at hcb
      have HCALL := Lib.hid hcall
      have HCB := Lib.hid hcb
      have HL := Lib.hid hl
      have HO := Lib.hid ho
      clear hl ho hcall he hcb hb
      have HB0 := Lib.hid (below_alloc2 w (.cells #[.int .i64 nb, .slice A ls.length c] 24) (.cells #[.int .i64 bus] 3))
      go_enter Try.func22, Try.ntmps22
      go_wp2_with fail
      refine (HCALL.out _ (by exact HL.out.upto HB0.out) (by exact HO.out.upto HB0.out)).mono ?_
      rintro e w1 ⟨rfl, hb1⟩
      have hbs := hb1.size
      simp only [World.size_alloc] at hbs
      have c0 : w1.cell? ⟨w.heap.size, 0, none⟩ = some (.int .i64 nb) := (hb1.cell (by simp; omega)).trans (by simp)
      have c1 : w1.cell? ⟨w.heap.size, 1, none⟩ = some (.slice A ls.length c) := (hb1.cell (by simp; omega)).trans (by simp)
      have c2 : w1.cell? ⟨w.heap.size + 1, 0, none⟩ = some (.int .i64 bus) := (hb1.cell (by simp)).trans (by simp)
      have HB1 := Lib.hid (HB0.out.trans (hb1.mono HB0.out.size))
      clear hb1
      go_wp2_with fail
      refine (HCB.out _).mono ?_
      rintro e w2 ⟨rfl, hb2⟩
      have HB2 := Lib.hid (HB1.out.trans (hb2.mono HB1.out.size))
      clear hb2
      go_wp2_with fail
      go_ret2
      exact ⟨_, rfl, World.ownsRow_nil _ _ _ _, HB2.out⟩
  · rw [atL, atE, if_neg (fun h => he h.1), if_neg he]
    have hcall := fun W hl ho => outs_any nb A A' c c' ls out W hl ho hm hn
    have he' : (outsE nb ls out != 0) = true := by rw [bne_iff_ne]; exact he
    generalize outsE nb ls out = er at *
    have HCALL := Lib.hid hcall
    have HL := Lib.hid hl
    have HO := Lib.hid ho
    clear hl ho hcall he
    have HB0 := Lib.hid (below_alloc2 w (.cells #[.int .i64 nb, .slice A ls.length c] 24) (.cells #[.int .i64 bus] 3))
    go_enter Try.func22, Try.ntmps22
    go_wp2_with fail
    refine (HCALL.out _ (by exact HL.out.upto HB0.out) (by exact HO.out.upto HB0.out)).mono ?_
    rintro e w1 ⟨rfl, hb1⟩
    have HB1 := Lib.hid (HB0.out.trans (hb1.mono HB0.out.size))
    clear hb1
    go_wp2_with fail
    go_ret2
    exact ⟨_, rfl, World.ownsRow_nil _ _ _ _, HB1.out⟩
end Go.Proofs.Ytcacaiakkfgdpaa
