/- outage.Ahead, Now, Trips. -/
import Derived.Test.YtklfijhlibpmaaaOgF
namespace Go.Proofs.Ytklfijhlibpmaaa
open Go.RowKit
set_option linter.unusedVariables false

theorem KdR.lit (w : World) (t : TypeId) (ks : List Int) (cs : Array Value) (h : cs = (ks.map (Value.int .u8)).toArray) : KdR (w.alloc (.cells cs t)) (some ⟨w.heap.size, 0, none⟩) ks := fun hn => by
  refine ⟨w.heap.size, 0, rfl, fun i hi => ?_⟩
  rw [cell_alloc_at _ _ _ _ _ rfl, h]
  simp [hi]

set_option maxHeartbeats 1000000 in
theorem ahead_any (A : Option Addr) (c : Nat) (ls : List Og) (h : Int) (w : World) (hl : OgsR w w.heap.size A ls) (hm : ls.length ≤ 1000000) :
    Calls Try.prog 13 #[.slice A ls.length c, .int .i64 h] w (RowE w (affL [1] ls h)) := by
  have hb := (Below.refl w.heap.size w).alloc (Nat.le_refl _) (.cells #[.int .u8 1] 5)
  have K := Lib.hid (affected_any A c ls h w.heap.size 0 1 [1] (w.alloc (.cells #[.int .u8 1] 5)) (hl.upto hb) (KdR.lit w _ _ _ rfl) (by simp) hm (by simp))
  have HB := Lib.hid hb
  clear hl hb
  generalize affL [1] ls h = r at *
  go_enter Try.func13, Try.ntmps13
  go_wp2_with (go_at_call 30; refine K.out.mono ?_; rintro e w' ⟨v, rfl, hown, hb1⟩; have HO := Lib.hid hown; have HB1 := Lib.hid hb1; clear hown hb1)
  go_ret
  exact ⟨v, rfl, ownsRow_base HO.out (by simp), HB.out.trans (HB1.out.mono HB.out.size)⟩

set_option maxHeartbeats 1000000 in
theorem now_any (A : Option Addr) (c : Nat) (ls : List Og) (h : Int) (w : World) (hl : OgsR w w.heap.size A ls) (hm : ls.length ≤ 1000000) :
    Calls Try.prog 14 #[.slice A ls.length c, .int .i64 h] w (RowE w (affL [1, 2] ls h)) := by
  have hb := (Below.refl w.heap.size w).alloc (Nat.le_refl _) (.cells #[.int .u8 1, .int .u8 2] 5)
  have K := Lib.hid (affected_any A c ls h w.heap.size 0 2 [1, 2] (w.alloc (.cells #[.int .u8 1, .int .u8 2] 5)) (hl.upto hb) (KdR.lit w _ _ _ rfl) (by simp) hm (by simp))
  have HB := Lib.hid hb
  clear hl hb
  generalize affL [1, 2] ls h = r at *
  go_enter Try.func14, Try.ntmps14
  go_wp2_with (go_at_call 30; refine K.out.mono ?_; rintro e w' ⟨v, rfl, hown, hb1⟩; have HO := Lib.hid hown; have HB1 := Lib.hid hb1; clear hown hb1)
  go_ret
  exact ⟨v, rfl, ownsRow_base HO.out (by simp), HB.out.trans (HB1.out.mono HB.out.size)⟩

set_option maxHeartbeats 1000000 in
theorem trips_any (A : Option Addr) (c : Nat) (ls : List Og) (h : Int) (w : World) (hl : OgsR w w.heap.size A ls) (hm : ls.length ≤ 1000000) :
    Calls Try.prog 19 #[.slice A ls.length c, .int .i64 h] w (RowE w (affL [3] ls h)) := by
  have hb := (Below.refl w.heap.size w).alloc (Nat.le_refl _) (.cells #[.int .u8 3] 5)
  have K := Lib.hid (affected_any A c ls h w.heap.size 0 1 [3] (w.alloc (.cells #[.int .u8 3] 5)) (hl.upto hb) (KdR.lit w _ _ _ rfl) (by simp) hm (by simp))
  have HB := Lib.hid hb
  clear hl hb
  generalize affL [3] ls h = r at *
  go_enter Try.func19, Try.ntmps19
  go_wp2_with (go_at_call 30; refine K.out.mono ?_; rintro e w' ⟨v, rfl, hown, hb1⟩; have HO := Lib.hid hown; have HB1 := Lib.hid hb1; clear hown hb1)
  go_ret
  exact ⟨v, rfl, ownsRow_base HO.out (by simp), HB.out.trans (HB1.out.mono HB.out.size)⟩
end Go.Proofs.Ytklfijhlibpmaaa
