/- The text CycA. -/
import Derived.Deep.DeepCutAuto
import Derived.Test.YtmojjfdamdgegaaMg44
/- tree.Cycles in every case. -/
namespace Go.Proofs.Ytmojjfdamdgegaa
open Go.RowKit
set_option linter.unusedVariables false

set_option maxRecDepth 100000 in
set_option maxHeartbeats 2000000 in
theorem cycles_any (nb : Int) (A O : Option Addr) (c co : Nat) (ls : List Ln) (out : List Int) (w : World) (hl : LinesR w w.heap.size A ls) (ho : IntsR w w.heap.size O out) (hm : ls.length ≤ 1000000) (hn : out.length ≤ 1000000) :
    Calls Try.prog 18 #[.agg #[.int .i64 nb, .slice A ls.length c], .slice O out.length co] w (CycE w (if outsE nb ls out = 0 then cycL nb ls out else []) (outsE nb ls out)) := by
  by_cases he : outsE nb ls out = 0
  · rw [if_pos he, he]
    exact cycles_ok nb A O c co ls out _ w hl ho hm hn he (cyc_dfs he)
  · rw [if_neg he]
    have ki := fun W hl ho => in_any nb A O c co ls out W hl ho hm hn
    have b1 : (outsE nb ls out != 0) = true := by simpa using he
    rw [inL, if_neg he] at ki
    clear he
    generalize outsE nb ls out = er at *
    have KI := Lib.hid ki
    have HL := Lib.hid hl
    have HO := Lib.hid ho
    clear ki hl ho
    go_enter Try.func18, Try.ntmps18
    go_wp2_with fail
    have hb0 : Below w.heap.size w (w.alloc (.cells #[.int .i64 nb, .slice A ls.length c] 24)) := (Below.refl _ _).alloc (Nat.le_refl _) _
    refine (KI.out _ (HL.out.upto hb0) (HO.out.upto hb0)).mono ?_
    rintro e w1 ⟨v, rfl, hown, hb⟩
    obtain ⟨Ai, ci, rfl, hI⟩ := ownsRow_ints hown
    have HB1 := Lib.hid (hb0.trans (hb.mono hb0.size))
    clear hown hI hb hb0 HL HO KI
    go_wp2_with fail
    go_ret2
    exact ⟨_, rfl, RowsOwn.nil_ _ _, HB1.out⟩
end Go.Proofs.Ytmojjfdamdgegaa
