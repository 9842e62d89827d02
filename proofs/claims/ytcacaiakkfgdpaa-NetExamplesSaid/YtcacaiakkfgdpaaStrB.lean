/- net.Strip, whatever it is handed. -/
import Derived.Test.YtcacaiakkfgdpaaStrA
namespace Go.Proofs.Ytcacaiakkfgdpaa
open Go.RowKit Go.Shelf
set_option linter.unusedVariables false

def stripNb (nb : Int) (ls : List Ln) (out : List Int) : Int := if outsE nb ls out = 0 then nb else 0
def stripL (nb : Int) (ls : List Ln) (out : List Int) : List Ln := if outsE nb ls out = 0 then pick ls (svcL out ls.length) else []
def stripK (nb : Int) (ls : List Ln) (out : List Int) : List Int := if outsE nb ls out = 0 then svcL out ls.length else []

set_option maxHeartbeats 1000000 in
theorem strip_any (nb : Int) (A A' : Option Addr) (c c' : Nat) (ls : List Ln) (out : List Int) (w : World) (hl : LinesR w w.heap.size A ls) (ho : IntsR w w.heap.size A' out)
    (hm : ls.length ≤ 1000000) (hn : out.length ≤ 1000000) :
    Calls Try.prog 31 #[.agg #[.int .i64 nb, .slice A ls.length c], .slice A' out.length c'] w (StripE w (stripNb nb ls out) (stripL nb ls out) (stripK nb ls out) (outsE nb ls out)) := by
  by_cases he : outsE nb ls out = 0
  · rw [stripNb, stripL, stripK, if_pos he, if_pos he, if_pos he, he]
    exact strip_ok nb A A' c c' ls out w hl ho hm hn he
  · rw [stripNb, stripL, stripK, if_neg he, if_neg he, if_neg he]
    have hcall := fun W hl ho => outs_any nb A A' c c' ls out W hl ho hm hn
    have he' : (outsE nb ls out != 0) = true := by rw [bne_iff_ne]; exact he
    generalize outsE nb ls out = er at *
    have HCALL := Lib.hid hcall
    have HL := Lib.hid hl
    have HO := Lib.hid ho
    clear hl ho hcall he
    have hB3 : Below w.heap.size w (((w.alloc (.cells #[.int .i64 nb, .slice A ls.length c] 24)).alloc (.cells #[.int .i64 0, .slice none 0 0] 24)).alloc (.cells #[.slice none 0 0] 25)) := (((Below.refl _ _).alloc (Nat.le_refl _) _).alloc (by simp) _).alloc (by simp; omega) _
    have HB3 := Lib.hid hB3
    clear hB3
    go_enter Try.func31, Try.ntmps31
    go_wp2_with fail
    refine (HCALL.out _ (by exact HL.out.upto HB3.out) (by exact HO.out.upto HB3.out)).mono ?_
    rintro e w1 ⟨rfl, hb1⟩
    have hbs := hb1.size
    simp only [World.size_alloc] at hbs
    obtain ⟨t0, t1, t2⟩ := heap3 w (.cells #[.int .i64 nb, .slice A ls.length c] 24) (.cells #[.int .i64 0, .slice none 0 0] 24) (.cells #[.slice none 0 0] 25)
    have d0 := (hb1.block (w.heap.size + 1) (by simp only [World.size_alloc]; omega)).trans t1
    have d1 := (hb1.block (w.heap.size + 2) (by simp only [World.size_alloc]; omega)).trans t2
    have r0 : w1.cell? ⟨w.heap.size + 1, 0, none⟩ = some (.int .i64 0) := by simp [World.cell?, d0]
    have r1 : w1.cell? ⟨w.heap.size + 1, 1, none⟩ = some (.slice none 0 0) := by simp [World.cell?, d0]
    have r2 : w1.cell? ⟨w.heap.size + 1 + 1, 0, none⟩ = some (.slice none 0 0) := by simp [World.cell?, d1]
    have s0 : w1.frozen? ⟨w.heap.size + 1, 0, none⟩ = false := by simp [World.frozen?, d0]
    have s1 : w1.frozen? ⟨w.heap.size + 1, 1, none⟩ = false := by simp [World.frozen?, d0]
    have s2 : w1.frozen? ⟨w.heap.size + 1 + 1, 0, none⟩ = false := by simp [World.frozen?, d1]
    have HB1 := Lib.hid (HB3.out.trans (hb1.mono HB3.out.size))
    clear t0 t1 t2 d0 d1 hb1
    go_wp2_with fail
    refine bodyPost_ret (v := .tuple #[.agg #[.int .i64 0, .slice none 0 0], .slice none 0 0, .int .i64 er]) (by simp [results, Try.results31, go_sem, *]) rfl ⟨none, 0, none, 0, rfl, World.ownsRow_nil _ _ _ _, World.ownsRow_nil _ _ _ _, ?_⟩
    exact ((HB1.out.setCell (p := ⟨w.heap.size + 1, 0, none⟩) (by show w.heap.size ≤ w.heap.size + 1; omega) _).setCell (p := ⟨w.heap.size + 1, 1, none⟩) (by show w.heap.size ≤ w.heap.size + 1; omega) _).setCell (p := ⟨w.heap.size + 1 + 1, 0, none⟩) (by show w.heap.size ≤ w.heap.size + 1 + 1; omega) _
end Go.Proofs.Ytcacaiakkfgdpaa
