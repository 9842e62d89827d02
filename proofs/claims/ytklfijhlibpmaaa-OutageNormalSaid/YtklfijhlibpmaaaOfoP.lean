/- OutageForm: plain facts, and the drawn region of the rotation. -/
import Derived.Test.YtklfijhlibpmaaaOgP
import Derived.Test.YtklfijhlibpmaaaOngU
namespace Go.Proofs.Ytklfijhlibpmaaa
open Go.RowKit
set_option linter.unusedVariables false

theorem norm_norm (l : List Og) : ogN (ogN l) = ogN l := ogN_same (ogN_is l).same
theorem norm_turned (l : List Og) (k : Nat) : ogN (l.drop k ++ l.take k) = ogN l := ogN_same (ogSame_of_mem fun x => by
  rw [List.mem_append, or_comm, ← List.mem_append, List.take_append_drop])
theorem norm_twice (l : List Og) (k : Nat) : ogN (l ++ (l.drop k ++ l.take k)) = ogN l := ogN_same (ogSame_append_self l (ogSame_of_mem fun x => by
  rw [List.mem_append, or_comm, ← List.mem_append, List.take_append_drop]))
theorem norm_with (l : List Og) : ogN (l ++ ogN l) = ogN l := ogN_same (ogSame_append_self l (ogN_is l).same)
theorem OgBs.append {l m : List Og} (h : OgBs l) (h' : OgBs m) : OgBs (l ++ m) := fun o ho => by
  rcases List.mem_append.1 ho with ho | ho
  · exact h o ho
  · exact h' o ho
theorem OgBs.turned {l : List Og} (h : OgBs l) (k : Nat) : OgBs (l.drop k ++ l.take k) := fun o ho => by
  rcases List.mem_append.1 ho with ho | ho
  · exact h o (List.mem_of_mem_drop ho)
  · exact h o (List.mem_of_mem_take ho)
theorem wpList_append_want {P : Program} (w : World) {ops : Array Oper} {rest : List Oper} {o : Oper} {a : Act} {Q : Exit → Act → World → Prop} (hgd : Region.wanted o (yielded ops a.tmps) = true) (s x : Operand) (t : TypeId)
    (ho : o.op = .call { callee := .builtin .append, args := #[s, x], argTypes := #[t, t] })
    (base : Nat) (e : TypeId) (i : TypeInfo) (z : Value) (size bytes : Nat) (ht : P.underlying t = some (.slice e)) (hi : P.info? e = some i) (hz : i.zero = some z)
    (hsize : i.size = size) (hby : i.bytes = bytes) (hzs : z.cells.size = size) (hsz : 0 < size)
    (v : Value) (n : Nat) (xs : List Value) (hs : a.eval s = v) (hown : w.ownsRow base e size v n xs)
    (A : Option Addr) (m c : Nat) (news : List Value) (hx : a.eval x = .slice A m c) (hr : Src w size A m news) (h1 : ∀ u ∈ news, u.oneCell' = true)
    (h63 : n + m ≤ maxLen) (hbytes : (n + m) * bytes ≤ 140737488355328) (hbase : base ≤ w.heap.size)
    (h : ∀ v' w', w'.ownsRow base e size v' (n + m) (xs ++ news) → w.grownBy w' v.ownBlock → (v'.ownBlock = v.ownBlock ∨ v'.ownBlock = some w.heap.size) → wpList P ops Q rest (a.put o.dst v') w') : wpList P ops Q (o :: rest) a w :=
  BigFrame.wpList_want hgd fun _ hK => wp_append_any w s x t ho base e i z size bytes ht hi hz hsize hby hzs hsz v n xs hs hown A m c news hx hr h1 h63 hbytes hbase fun v' w' h2 h3 h4 => hK _ _ (h v' w' h2 h3 h4)
theorem sep_at {l : List Og} (h : l.Pairwise ogSep) {i : Nat} (hi : i + 1 < l.length) : ogSep (l.getD i (0, 0, 0, 0)) (l.getD (i + 1) (0, 0, 0, 0)) := by
  rw [List.pairwise_iff_getElem] at h
  have := h i (i + 1) (by omega) hi (by omega)
  rw [getD_eq l i _ (by omega), getD_eq l (i + 1) _ hi]
  exact this
def TurnF (V0 V1 V2 : Value) (k s : Nat) (d tl : List Og) (done : Nat → Prop) (i : Nat) (v : Value) (W : World) : Prop :=
  match i with
  | 0 => v = V0
  | 1 => v = .int .i64 (k : Int)
  | 2 => v = V1
  | 3 => ¬ done 7 → W.ownsRow s 27 4 v d.length (ogCells d)
  | 4 => v = V0
  | 5 => v = .int .i64 (k : Int)
  | 6 => v = V2
  | 7 => W.ownsRow s 27 4 v tl.length (ogCells tl)
  | 8 => W.ownsRow s 27 4 v tl.length (ogCells tl)
  | _ => True
theorem TurnF.keep {V0 V1 V2 : Value} {k s : Nat} {d tl : List Og} {done : Nat → Prop} {j : Nat} {v : Value} {W W' : World} (h : TurnF V0 V1 V2 k s d tl done j v W) (hb : Below W.heap.size W W') (i : Nat) : TurnF V0 V1 V2 k s d tl (more done i) j v W' := by
  unfold TurnF at h ⊢
  split at h
  all_goals first
    | exact h
    | exact fun h7 => ownsRow_below (h fun hh => h7 (.inr hh)) hb
    | exact ownsRow_below h hb
theorem TwoF.keep {V : Value} {b off j k s : Nat} {x y : Og} {done : Nat → Prop} {m : Nat} {v : Value} {W W' : World} (h : TwoF V b off j k s x y done m v W) (hW : ∀ p cs, Blk W p cs 27 → Blk W' p cs 27) {i : Nat} (h11 : i ≠ 11) (h12 : i ≠ 12) : TwoF V b off j k s x y (more done i) m v W' := by
  unfold TwoF at h ⊢
  split at h
  all_goals first
    | exact h
    | (obtain ⟨p, e, hs, h1, h2⟩ := h
       refine ⟨p, e, hs, fun hn => hW _ _ (h1 fun hd => hn (.inr hd)), fun hd => ?_⟩
       rcases hd with hd | hd
       · first | exact absurd hd.symm h11 | exact absurd hd.symm h12
       · exact hW _ _ (h2 hd))
end Go.Proofs.Ytklfijhlibpmaaa
