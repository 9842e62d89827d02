/- The table of NetExamples, walked. -/
import Derived.Test.YtcacaiakkfgdpaaNexB
import Derived.Test.YtcacaiakkfgdpaaAwkN
import Derived.Deep.DeepCutAuto
namespace Go.Proofs.Ytcacaiakkfgdpaa
open Go.RowKit
set_option linter.unusedVariables false

theorem long_of {w : World} {B : Nat} {v : Value} {xs : List Value} (h : w.ownsRow B 51 4 v (10 + 1) xs) : ∃ A c, v = .slice A 11 c := by
  rcases h.2 with ⟨_, h0⟩ | ⟨g, cap, cur, rfl, _⟩
  · omega
  · exact ⟨_, _, rfl⟩
theorem nex_start (w1 : World) : let w3 := (w1.alloc (.cells #[.int .i64 0, .int .i64 1, .int .i64 1, .int .i64 0] 51)).alloc (.cells (List.toArray (.int .i64 0 :: .int .i64 1 :: .int .i64 1 :: .int .i64 0 :: .int .i64 0 :: .int .i64 1 :: .int .i64 1 :: .int .i64 0 :: .int .i64 0 :: .int .i64 1 :: .int .i64 1 :: .int .i64 0 :: .int .i64 0 :: .int .i64 1 :: .int .i64 1 :: .int .i64 0 :: .int .i64 0 :: .int .i64 1 :: .int .i64 1 :: .int .i64 0 :: .int .i64 0 :: .int .i64 1 :: .int .i64 1 :: .int .i64 0 :: .int .i64 0 :: .int .i64 1 :: .int .i64 1 :: .int .i64 0 :: .int .i64 0 :: .int .i64 1 :: .int .i64 1 :: .int .i64 0 :: .int .i64 0 :: .int .i64 1 :: .int .i64 1 :: .int .i64 0 :: .int .i64 0 :: .int .i64 1 :: .int .i64 1 :: .int .i64 0 :: [])) 51)
    w3.cell? ⟨w1.heap.size, 0, none⟩ = some (.int .i64 0) ∧ w3.cell? ⟨w1.heap.size, 1, none⟩ = some (.int .i64 1) ∧ w3.cell? ⟨w1.heap.size, 2, none⟩ = some (.int .i64 1) ∧ w3.cell? ⟨w1.heap.size, 3, none⟩ = some (.int .i64 0) ∧ LinesR w3 w3.heap.size (some ⟨w1.heap.size + 1, 0, none⟩) tenLs ∧ w1.heap.size < w3.heap.size ∧ Below w1.heap.size w1 w3 := by
  intro w3
  have hb2 : Below w1.heap.size w1 w3 := below_alloc2 _ _ _
  have hB : Blk w3 (w1.heap.size + 1) (lnCells tenLs).toArray 51 := by
    have h := Blk.new (w1.alloc (.cells #[.int .i64 0, .int .i64 1, .int .i64 1, .int .i64 0] 51)) (lnCells tenLs).toArray 51
    rw [World.size_alloc] at h
    exact h
  refine ⟨by simp [w3], by simp [w3], by simp [w3], by simp [w3], hB.lines tenLs rfl, by show _ < (World.alloc _ _).heap.size; simp only [World.size_alloc]; omega, hb2⟩

set_option maxRecDepth 100000 in
set_option maxHeartbeats 16000000 in
theorem nex_walk (w : World) : Calls Try.prog 9 #[] w fun e w' => e = .returned (.bool true) ∧ Below w.heap.size w w' := by
  obtain ⟨j0, hj0, hy0, hy1, hy2⟩ := info_parts info_lineR
  go_enter Try.func9, Try.ntmps9
  go_wp2_with fail
  refine (awake14_any _).mono ?_
  rintro e w1 ⟨rfl, hb1⟩
  have HB1 := Lib.hid hb1
  clear hb1
  go_upto_region 5 with fail
  have hX := nex_start w1
  generalize (w1.alloc (.cells #[.int .i64 0, .int .i64 1, .int .i64 1, .int .i64 0] 51)).alloc (.cells (List.toArray (.int .i64 0 :: .int .i64 1 :: .int .i64 1 :: .int .i64 0 :: .int .i64 0 :: .int .i64 1 :: .int .i64 1 :: .int .i64 0 :: .int .i64 0 :: .int .i64 1 :: .int .i64 1 :: .int .i64 0 :: .int .i64 0 :: .int .i64 1 :: .int .i64 1 :: .int .i64 0 :: .int .i64 0 :: .int .i64 1 :: .int .i64 1 :: .int .i64 0 :: .int .i64 0 :: .int .i64 1 :: .int .i64 1 :: .int .i64 0 :: .int .i64 0 :: .int .i64 1 :: .int .i64 1 :: .int .i64 0 :: .int .i64 0 :: .int .i64 1 :: .int .i64 1 :: .int .i64 0 :: .int .i64 0 :: .int .i64 1 :: .int .i64 1 :: .int .i64 0 :: .int .i64 0 :: .int .i64 1 :: .int .i64 1 :: .int .i64 0 :: [])) 51) = w3 at *
  obtain ⟨q0, q1, q2, q3, hT, hLb, hb3⟩ := hX
  have HT := Lib.hid hT
  have HB3 := Lib.hid (HB1.out.trans (hb3.mono HB1.out.size))
  clear hT hb3 HB1
  generalize hTT : w1.heap.size + 1 = T at *
  generalize w1.heap.size = Lb at *
  clear hTT
  go_cut [116, 117, 118] (fun s116 s117 s118 wx => ∃ g, s116 = .slice (some ⟨g, 0, none⟩) 16 16 ∧ s117 = .int .i64 16 ∧ s118 = .int .i64 0 ∧ NexRows g wx ∧ Below w3.heap.size w3 wx)
  case first =>
    refine region_eachX (nexF w3.heap.size T) (fun _ W => Below w3.heap.size w3 W) (by kernel_rfl) (by kernel_rfl) (Below.refl _ _).drew ?_ ?_
    · intro i o ho done a W hni hcl hI hdep hrest
      have r1 : a.eval (.tmp 1) = .pointer (some ⟨Lb, 0, none⟩) := hrest 1 (apart_of (by kernel_rfl))
      have r2 : a.eval (.tmp 2) = .slice (some ⟨T, 0, none⟩) 10 10 := hrest 2 (apart_of (by kernel_rfl))
      have hc : ∀ v, a.eval (.const v) = v := fun _ => rfl
      clear hrest
      have hkeep : ∀ (W' : World), Below W.heap.size W W' → ∀ (j : Nat) (u : Value), done j → nexF w3.heap.size T done j u W → nexF w3.heap.size T (more done i) j u W' := fun W' hb j u _ h => nexF_up h hb fun _ => .inr
      rcases i with _ | _ | _ | _ | _ | _ | _ | _ | _ | _ | _ | _ | _ | _ | _ | _ | _ | _ | _ | _ | _ | _ | _ | _ | _ | _ | _ | _ | _ | _ | _ | _ | _ | _ | _ | _ | _ | _ | _ | _ | _ | _ | _ | _ | _ | _ | _ | _ | _ | _ | _ | _ | _ | _ | _ | _ | _ | _ | _ | _ | _ | _ | _ | _ | _ | _ | _ | _ | _ | _ | i
      · injection ho with ho
        subst ho
        refine ⟨fun _ K Q hK => wp_of_value (v := .agg #[.int .i64 0, .slice none 0 0]) ?_ (hK _ _ hI rfl (fun j u hd _ h => hkeep _ (Below.refl _ _) j u hd h)), fun hw => by simp [Region.wanted] at hw⟩
        clear hK hkeep hdep hI hcl
        generalize a.eval = ρ at *
        simp [go_sem]
      · injection ho with ho
        subst ho
        have d0 : nexF w3.heap.size T done 0 (a.eval (.tmp 49)) W := ((hdep ⟨0, .data⟩ (by simp) rfl).2 _ rfl).1 _ rfl
        have e0 : a.eval (.tmp 49) = .agg #[.int .i64 0, .slice none 0 0] := d0
        refine ⟨fun _ K Q hK => wp_of_value (v := .agg #[.int .i64 0, .slice none 0 0, .int .i64 1]) ?_ (hK _ _ hI rfl (fun j u hd _ h => hkeep _ (Below.refl _ _) j u hd h)), fun hw => by simp [Region.wanted] at hw⟩
        clear hK hkeep hdep hI hcl
        generalize a.eval = ρ at *
        simp [go_sem, e0, hc]
      · injection ho with ho
        subst ho
        refine ⟨fun _ K Q hK => wp_of_value (v := .agg #[.int .i64 1, .slice none 0 0]) ?_ (hK _ _ hI rfl (fun j u hd _ h => hkeep _ (Below.refl _ _) j u hd h)), fun hw => by simp [Region.wanted] at hw⟩
        clear hK hkeep hdep hI hcl
        generalize a.eval = ρ at *
        simp [go_sem, hc]
      · injection ho with ho
        subst ho
        have d2 : nexF w3.heap.size T done 2 (a.eval (.tmp 51)) W := ((hdep ⟨2, .data⟩ (by simp) rfl).2 _ rfl).1 _ rfl
        have e2 : a.eval (.tmp 51) = .agg #[.int .i64 1, .slice none 0 0] := d2
        refine ⟨fun _ K Q hK => wp_of_value (v := .agg #[.int .i64 1, .slice none 0 0, .int .i64 0]) ?_ (hK _ _ hI rfl (fun j u hd _ h => hkeep _ (Below.refl _ _) j u hd h)), fun hw => by simp [Region.wanted] at hw⟩
        clear hK hkeep hdep hI hcl
        generalize a.eval = ρ at *
        simp [go_sem, e2, hc]
      · injection ho with ho
        subst ho
        refine ⟨fun _ K Q hK => wp_of_value (v := .agg #[.int .i64 6, .slice none 0 0]) ?_ (hK _ _ hI rfl (fun j u hd _ h => hkeep _ (Below.refl _ _) j u hd h)), fun hw => by simp [Region.wanted] at hw⟩
        clear hK hkeep hdep hI hcl
        generalize a.eval = ρ at *
        simp [go_sem, hc]
      · injection ho with ho
        subst ho
        have d4 : nexF w3.heap.size T done 4 (a.eval (.tmp 53)) W := ((hdep ⟨4, .data⟩ (by simp) rfl).2 _ rfl).1 _ rfl
        have e4 : a.eval (.tmp 53) = .agg #[.int .i64 6, .slice none 0 0] := d4
        refine ⟨fun _ K Q hK => wp_of_value (v := .agg #[.int .i64 6, .slice none 0 0, .int .i64 0]) ?_ (hK _ _ hI rfl (fun j u hd _ h => hkeep _ (Below.refl _ _) j u hd h)), fun hw => by simp [Region.wanted] at hw⟩
        clear hK hkeep hdep hI hcl
        generalize a.eval = ρ at *
        simp [go_sem, e4, hc]
      · injection ho with ho
        subst ho
        refine ⟨fun _ K Q hK => wp_of_value (v := .agg #[.int .i64 7, .slice none 0 0]) ?_ (hK _ _ hI rfl (fun j u hd _ h => hkeep _ (Below.refl _ _) j u hd h)), fun hw => by simp [Region.wanted] at hw⟩
        clear hK hkeep hdep hI hcl
        generalize a.eval = ρ at *
        simp [go_sem, hc]
      · injection ho with ho
        subst ho
        have d6 : nexF w3.heap.size T done 6 (a.eval (.tmp 55)) W := ((hdep ⟨6, .data⟩ (by simp) rfl).2 _ rfl).1 _ rfl
        have e6 : a.eval (.tmp 55) = .agg #[.int .i64 7, .slice none 0 0] := d6
        refine ⟨fun _ K Q hK => wp_of_value (v := .agg #[.int .i64 7, .slice none 0 0, .int .i64 1]) ?_ (hK _ _ hI rfl (fun j u hd _ h => hkeep _ (Below.refl _ _) j u hd h)), fun hw => by simp [Region.wanted] at hw⟩
        clear hK hkeep hdep hI hcl
        generalize a.eval = ρ at *
        simp [go_sem, e6, hc]
      · injection ho with ho
        subst ho
        refine ⟨fun _ K Q hK => wp_of_value (v := .slice (some ⟨T, 0, none⟩) 10 10) ?_ (hK _ _ hI rfl (fun j u hd _ h => hkeep _ (Below.refl _ _) j u hd h)), fun hw => by simp [Region.wanted] at hw⟩
        clear hK hkeep hdep hI hcl
        generalize a.eval = ρ at *
        simp [go_sem, r2]
      · injection ho with ho
        subst ho
        have d8 : nexF w3.heap.size T done 8 (a.eval (.tmp 57)) W := ((hdep ⟨8, .data⟩ (by simp) rfl).2 _ rfl).1 _ rfl
        have e8 : a.eval (.tmp 57) = .slice (some ⟨T, 0, none⟩) 10 10 := d8
        refine ⟨fun _ K Q hK => wp_of_value (v := .agg #[.int .i64 2, .slice (some ⟨T, 0, none⟩) 10 10]) ?_ (hK _ _ hI rfl (fun j u hd _ h => hkeep _ (Below.refl _ _) j u hd h)), fun hw => by simp [Region.wanted] at hw⟩
        clear hK hkeep hdep hI hcl
        generalize a.eval = ρ at *
        simp [go_sem, e8, hc]
      · injection ho with ho
        subst ho
        have d9 : nexF w3.heap.size T done 9 (a.eval (.tmp 58)) W := ((hdep ⟨9, .data⟩ (by simp) rfl).2 _ rfl).1 _ rfl
        have e9 : a.eval (.tmp 58) = .agg #[.int .i64 2, .slice (some ⟨T, 0, none⟩) 10 10] := d9
        refine ⟨fun _ K Q hK => wp_of_value (v := .agg #[.int .i64 2, .slice (some ⟨T, 0, none⟩) 10 10, .int .i64 0]) ?_ (hK _ _ hI rfl (fun j u hd _ h => hkeep _ (Below.refl _ _) j u hd h)), fun hw => by simp [Region.wanted] at hw⟩
        clear hK hkeep hdep hI hcl
        generalize a.eval = ρ at *
        simp [go_sem, e9, hc]
      · injection ho with ho
        subst ho
        have hb : Below W.heap.size W (W.alloc (.cells #[] 51)) := (Below.refl _ _).alloc (Nat.le_refl _) _
        refine ⟨fun _ K Q hK => wp_of_value (v := .slice (some ⟨W.heap.size, 0, none⟩) 0 0) (w' := W.alloc (.cells #[] 51)) ?_ (hK _ _ (hI.trans (hb.mono hI.size)) ⟨_, rfl, Blk.new _ _ _, hI.size⟩ (fun j u hd _ h => hkeep _ hb j u hd h)), fun hw => by simp [Region.wanted] at hw⟩
        clear hK hkeep hdep hI hcl
        generalize a.eval = ρ at *
        simp [go_sem]
      · injection ho with ho
        subst ho
        refine ⟨fun _ K Q hK => wp_of_value (v := .slice (some ⟨T, 0, none⟩) 10 10) ?_ (hK _ _ hI rfl (fun j u hd _ h => hkeep _ (Below.refl _ _) j u hd h)), fun hw => by simp [Region.wanted] at hw⟩
        clear hK hkeep hdep hI hcl
        generalize a.eval = ρ at *
        simp [go_sem, r2]
      · injection ho with ho
        subst ho
        have d11 : nexF w3.heap.size T done 11 (a.eval (.tmp 60)) W := ((hdep ⟨11, .data⟩ (by simp) rfl).2 _ rfl).1 _ rfl
        obtain ⟨b11, e11, k11, l11⟩ := d11
        have d12 : nexF w3.heap.size T done 12 (a.eval (.tmp 61)) W := ((hdep ⟨12, .data⟩ (by simp) rfl).2 _ rfl).1 _ rfl
        have e12 : a.eval (.tmp 61) = .slice (some ⟨T, 0, none⟩) 10 10 := d12
        refine ⟨fun _ K Q hK => ?_, fun hw => by simp [Region.wanted] at hw⟩
        refine wp_append_fresh W (.tmp 60) (.tmp 61) _ rfl w3.heap.size 51 j0 _ 4 32 Try.underlying22 hj0 hy0 hy1 hy2 rfl (by omega) b11 e11 ⟨rfl, .inr ⟨b11, 0, #[], rfl, l11, k11, by omega, by simp [maxLen], rfl, rfl⟩⟩ ⟨T, 0, none⟩ 10 10 (lnCells tenLs) e12 (show Src W 4 (some ⟨T, 0, none⟩) tenLs.length (lnCells tenLs) from (HT.out.upto hI).toSrcR) (one_linesR _) (by omega) (by omega) (by omega) hI.size ?_
        intro v' w' hown hb
        exact hK v' w' (hI.trans (hb.mono hI.size)) (fun _ => hown) (fun j u hd _ h => hkeep _ hb j u hd h)
      · injection ho with ho
        subst ho
        have x0 := (hI.cell (p := ⟨Lb, 0, none⟩) hLb).trans q0
        have x1 := (hI.cell (p := ⟨Lb, 1, none⟩) hLb).trans q1
        have x2 := (hI.cell (p := ⟨Lb, 2, none⟩) hLb).trans q2
        have x3 := (hI.cell (p := ⟨Lb, 3, none⟩) hLb).trans q3
        refine ⟨fun _ K Q hK => wp_of_value (v := .agg #[.int .i64 0, .int .i64 1, .int .i64 1, .int .i64 0]) ?_ (hK _ _ hI rfl (fun j u hd _ h => hkeep _ (Below.refl _ _) j u hd h)), fun hw => by simp [Region.wanted] at hw⟩
        clear hK hkeep hdep hI hcl
        generalize a.eval = ρ at *
        simp [go_sem, r1, x0, x1, x2, x3]
      · injection ho with ho
        subst ho
        have d14 : nexF w3.heap.size T done 14 (a.eval (.tmp 63)) W := ((hdep ⟨14, .data⟩ (by simp) rfl).2 _ rfl).1 _ rfl
        have e14 : a.eval (.tmp 63) = .agg #[.int .i64 0, .int .i64 1, .int .i64 1, .int .i64 0] := d14
        have hb : Below W.heap.size W (W.alloc (.cells #[.int .i64 0, .int .i64 1, .int .i64 1, .int .i64 0] 51)) := (Below.refl _ _).alloc (Nat.le_refl _) _
        refine ⟨fun _ K Q hK => wp_of_value (v := .slice (some ⟨W.heap.size, 0, none⟩) 1 1) (w' := W.alloc (.cells #[.int .i64 0, .int .i64 1, .int .i64 1, .int .i64 0] 51)) ?_ (hK _ _ (hI.trans (hb.mono hI.size)) ⟨_, rfl, Blk.new _ _ _⟩ (fun j u hd _ h => hkeep _ hb j u hd h)), fun hw => by simp [Region.wanted] at hw⟩
        clear hK hkeep hdep hI hcl
        generalize a.eval = ρ at *
        simp [go_sem, e14]
      · injection ho with ho
        subst ho
        have d13 : nexF w3.heap.size T done 13 (a.eval (.tmp 62)) W := ((hdep ⟨13, .data⟩ (by simp) rfl).2 _ rfl).1 _ rfl
        have d15 : nexF w3.heap.size T done 15 (a.eval (.tmp 64)) W := ((hdep ⟨15, .data⟩ (by simp) rfl).2 _ rfl).1 _ rfl
        obtain ⟨b15, e15, k15⟩ := d15
        have hown := d13 hni
        have hsrc : Src W 4 (some ⟨b15, 0, none⟩) 1 (lnCells [(0, 1, 1, 0)]) := (k15.lines [(0, 1, 1, 0)] rfl).toSrcR
        have n67 : ¬ done 67 := fun hd => hni (hcl 17 _ rfl (hcl 18 _ rfl (hcl 67 _ rfl hd ⟨18, .data⟩ (by simp) rfl) ⟨17, .data⟩ (by simp) rfl) ⟨16, .data⟩ (by simp) rfl)
        refine ⟨fun _ K Q hK => ?_, fun hw => by simp [Region.wanted] at hw⟩
        have cn21 : done 21 → done 16 := fun hd => hcl 21 _ rfl hd ⟨16, .chain⟩ (by simp) rfl
        have cn29 : done 29 → done 16 := fun hd => cn21 (hcl 24 _ rfl (hcl 29 _ rfl hd ⟨24, .chain⟩ (by simp) rfl) ⟨21, .data⟩ (by simp) rfl)
        refine wp_append_any W (.tmp 62) (.tmp 64) _ rfl w3.heap.size 51 j0 _ 4 32 Try.underlying22 hj0 hy0 hy1 hy2 rfl (by omega) _ 10 (lnCells tenLs) rfl hown (some ⟨b15, 0, none⟩) 1 1 (lnCells [(0, 1, 1, 0)]) e15 hsrc (one_linesR _) (by simp only [maxLen]; omega) (by omega) hI.size ?_
        intro v' w' hown' hg _
        refine hK v' w' (hI.trans ((Below.refl _ _).grown hg hI.size (fun j ej => (hown.lt j ej).1))) (long_of hown') ?_
        intro jj v hd _ h
        exact nexF_grow h hown hg hd (fun _ => .inl rfl) (fun hd => absurd (cn21 hd) hni) (fun hd => absurd (cn29 hd) hni) n67
      · injection ho with ho
        subst ho
        have d16 : nexF w3.heap.size T done 16 (a.eval (.tmp 65)) W := ((hdep ⟨16, .data⟩ (by simp) rfl).2 _ rfl).1 _ rfl
        obtain ⟨A16, c16, e16⟩ := d16
        refine ⟨fun _ K Q hK => wp_of_value (v := .agg #[.int .i64 2, .slice A16 11 c16]) ?_ (hK _ _ hI ⟨_, _, rfl⟩ (fun j u hd _ h => hkeep _ (Below.refl _ _) j u hd h)), fun hw => by simp [Region.wanted] at hw⟩
        clear hK hkeep hdep hI hcl
        generalize a.eval = ρ at *
        simp [go_sem, hc, e16]
      · injection ho with ho
        subst ho
        have d17 : nexF w3.heap.size T done 17 (a.eval (.tmp 66)) W := ((hdep ⟨17, .data⟩ (by simp) rfl).2 _ rfl).1 _ rfl
        obtain ⟨A17, c17, e17⟩ := d17
        refine ⟨fun _ K Q hK => wp_of_value (v := .agg #[.int .i64 2, .slice A17 11 c17, .int .i64 5]) ?_ (hK _ _ hI ⟨_, _, rfl⟩ (fun j u hd _ h => hkeep _ (Below.refl _ _) j u hd h)), fun hw => by simp [Region.wanted] at hw⟩
        clear hK hkeep hdep hI hcl
        generalize a.eval = ρ at *
        simp [go_sem, hc, e17]
      · injection ho with ho
        subst ho
        have hb : Below W.heap.size W (W.alloc (.cells #[] 51)) := (Below.refl _ _).alloc (Nat.le_refl _) _
        refine ⟨fun _ K Q hK => wp_of_value (v := .slice (some ⟨W.heap.size, 0, none⟩) 0 0) (w' := W.alloc (.cells #[] 51)) ?_ (hK _ _ (hI.trans (hb.mono hI.size)) ⟨_, rfl, Blk.new _ _ _, hI.size⟩ (fun j u hd _ h => hkeep _ hb j u hd h)), fun hw => by simp [Region.wanted] at hw⟩
        clear hK hkeep hdep hI hcl
        generalize a.eval = ρ at *
        simp [go_sem]
      · injection ho with ho
        subst ho
        refine ⟨fun _ K Q hK => wp_of_value (v := .slice (some ⟨T, 0, none⟩) 10 10) ?_ (hK _ _ hI rfl (fun j u hd _ h => hkeep _ (Below.refl _ _) j u hd h)), fun hw => by simp [Region.wanted] at hw⟩
        clear hK hkeep hdep hI hcl
        generalize a.eval = ρ at *
        simp [go_sem, r2]
      · injection ho with ho
        subst ho
        have d19 : nexF w3.heap.size T done 19 (a.eval (.tmp 68)) W := ((hdep ⟨19, .data⟩ (by simp) rfl).2 _ rfl).1 _ rfl
        obtain ⟨b19, e19, k19, l19⟩ := d19
        have d20 : nexF w3.heap.size T done 20 (a.eval (.tmp 69)) W := ((hdep ⟨20, .data⟩ (by simp) rfl).2 _ rfl).1 _ rfl
        have e20 : a.eval (.tmp 69) = .slice (some ⟨T, 0, none⟩) 10 10 := d20
        refine ⟨fun _ K Q hK => ?_, fun hw => by simp [Region.wanted] at hw⟩
        refine wp_append_fresh W (.tmp 68) (.tmp 69) _ rfl w3.heap.size 51 j0 _ 4 32 Try.underlying22 hj0 hy0 hy1 hy2 rfl (by omega) b19 e19 ⟨rfl, .inr ⟨b19, 0, #[], rfl, l19, k19, by omega, by simp [maxLen], rfl, rfl⟩⟩ ⟨T, 0, none⟩ 10 10 (lnCells tenLs) e20 (show Src W 4 (some ⟨T, 0, none⟩) tenLs.length (lnCells tenLs) from (HT.out.upto hI).toSrcR) (one_linesR _) (by omega) (by omega) (by omega) hI.size ?_
        intro v' w' hown hb
        exact hK v' w' (hI.trans (hb.mono hI.size)) (fun _ => hown) (fun j u hd _ h => hkeep _ hb j u hd h)
      · injection ho with ho
        subst ho
        have x0 := (hI.cell (p := ⟨Lb, 0, none⟩) hLb).trans q0
        have x1 := (hI.cell (p := ⟨Lb, 1, none⟩) hLb).trans q1
        have x2 := (hI.cell (p := ⟨Lb, 2, none⟩) hLb).trans q2
        have x3 := (hI.cell (p := ⟨Lb, 3, none⟩) hLb).trans q3
        refine ⟨fun _ K Q hK => wp_of_value (v := .agg #[.int .i64 0, .int .i64 1, .int .i64 1, .int .i64 0]) ?_ (hK _ _ hI rfl (fun j u hd _ h => hkeep _ (Below.refl _ _) j u hd h)), fun hw => by simp [Region.wanted] at hw⟩
        clear hK hkeep hdep hI hcl
        generalize a.eval = ρ at *
        simp [go_sem, r1, x0, x1, x2, x3]
      · injection ho with ho
        subst ho
        have d22 : nexF w3.heap.size T done 22 (a.eval (.tmp 71)) W := ((hdep ⟨22, .data⟩ (by simp) rfl).2 _ rfl).1 _ rfl
        have e22 : a.eval (.tmp 71) = .agg #[.int .i64 0, .int .i64 1, .int .i64 1, .int .i64 0] := d22
        have hb : Below W.heap.size W (W.alloc (.cells #[.int .i64 0, .int .i64 1, .int .i64 1, .int .i64 0] 51)) := (Below.refl _ _).alloc (Nat.le_refl _) _
        refine ⟨fun _ K Q hK => wp_of_value (v := .slice (some ⟨W.heap.size, 0, none⟩) 1 1) (w' := W.alloc (.cells #[.int .i64 0, .int .i64 1, .int .i64 1, .int .i64 0] 51)) ?_ (hK _ _ (hI.trans (hb.mono hI.size)) ⟨_, rfl, Blk.new _ _ _⟩ (fun j u hd _ h => hkeep _ hb j u hd h)), fun hw => by simp [Region.wanted] at hw⟩
        clear hK hkeep hdep hI hcl
        generalize a.eval = ρ at *
        simp [go_sem, e22]
      · injection ho with ho
        subst ho
        have d21 : nexF w3.heap.size T done 21 (a.eval (.tmp 70)) W := ((hdep ⟨21, .data⟩ (by simp) rfl).2 _ rfl).1 _ rfl
        have d23 : nexF w3.heap.size T done 23 (a.eval (.tmp 72)) W := ((hdep ⟨23, .data⟩ (by simp) rfl).2 _ rfl).1 _ rfl
        obtain ⟨b23, e23, k23⟩ := d23
        have hown := d21 hni
        have hsrc : Src W 4 (some ⟨b23, 0, none⟩) 1 (lnCells [(0, 1, 1, 0)]) := (k23.lines [(0, 1, 1, 0)] rfl).toSrcR
        have n67 : ¬ done 67 := fun hd => hni (hcl 25 _ rfl (hcl 26 _ rfl (hcl 67 _ rfl hd ⟨26, .data⟩ (by simp) rfl) ⟨25, .data⟩ (by simp) rfl) ⟨24, .data⟩ (by simp) rfl)
        refine ⟨fun _ K Q hK => ?_, fun hw => by simp [Region.wanted] at hw⟩
        have dn16 : done 16 := hcl 21 _ rfl (hdep ⟨21, .data⟩ (by simp) rfl).1 ⟨16, .chain⟩ (by simp) rfl
        have cn29 : done 29 → done 24 := fun hd => hcl 29 _ rfl hd ⟨24, .chain⟩ (by simp) rfl
        refine wp_append_any W (.tmp 70) (.tmp 72) _ rfl w3.heap.size 51 j0 _ 4 32 Try.underlying22 hj0 hy0 hy1 hy2 rfl (by omega) _ 10 (lnCells tenLs) rfl hown (some ⟨b23, 0, none⟩) 1 1 (lnCells [(0, 1, 1, 0)]) e23 hsrc (one_linesR _) (by simp only [maxLen]; omega) (by omega) hI.size ?_
        intro v' w' hown' hg _
        refine hK v' w' (hI.trans ((Below.refl _ _).grown hg hI.size (fun j ej => (hown.lt j ej).1))) (long_of hown') ?_
        intro jj v hd _ h
        exact nexF_grow h hown hg hd (fun _ => .inr dn16) (fun _ => .inl rfl) (fun hd => absurd (cn29 hd) hni) n67
      · injection ho with ho
        subst ho
        have d24 : nexF w3.heap.size T done 24 (a.eval (.tmp 73)) W := ((hdep ⟨24, .data⟩ (by simp) rfl).2 _ rfl).1 _ rfl
        obtain ⟨A24, c24, e24⟩ := d24
        refine ⟨fun _ K Q hK => wp_of_value (v := .agg #[.int .i64 0, .slice A24 11 c24]) ?_ (hK _ _ hI ⟨_, _, rfl⟩ (fun j u hd _ h => hkeep _ (Below.refl _ _) j u hd h)), fun hw => by simp [Region.wanted] at hw⟩
        clear hK hkeep hdep hI hcl
        generalize a.eval = ρ at *
        simp [go_sem, hc, e24]
      · injection ho with ho
        subst ho
        have d25 : nexF w3.heap.size T done 25 (a.eval (.tmp 74)) W := ((hdep ⟨25, .data⟩ (by simp) rfl).2 _ rfl).1 _ rfl
        obtain ⟨A25, c25, e25⟩ := d25
        refine ⟨fun _ K Q hK => wp_of_value (v := .agg #[.int .i64 0, .slice A25 11 c25, .int .i64 1]) ?_ (hK _ _ hI ⟨_, _, rfl⟩ (fun j u hd _ h => hkeep _ (Below.refl _ _) j u hd h)), fun hw => by simp [Region.wanted] at hw⟩
        clear hK hkeep hdep hI hcl
        generalize a.eval = ρ at *
        simp [go_sem, hc, e25]
      · injection ho with ho
        subst ho
        have hb : Below W.heap.size W (W.alloc (.cells #[] 51)) := (Below.refl _ _).alloc (Nat.le_refl _) _
        refine ⟨fun _ K Q hK => wp_of_value (v := .slice (some ⟨W.heap.size, 0, none⟩) 0 0) (w' := W.alloc (.cells #[] 51)) ?_ (hK _ _ (hI.trans (hb.mono hI.size)) ⟨_, rfl, Blk.new _ _ _, hI.size⟩ (fun j u hd _ h => hkeep _ hb j u hd h)), fun hw => by simp [Region.wanted] at hw⟩
        clear hK hkeep hdep hI hcl
        generalize a.eval = ρ at *
        simp [go_sem]
      · injection ho with ho
        subst ho
        refine ⟨fun _ K Q hK => wp_of_value (v := .slice (some ⟨T, 0, none⟩) 10 10) ?_ (hK _ _ hI rfl (fun j u hd _ h => hkeep _ (Below.refl _ _) j u hd h)), fun hw => by simp [Region.wanted] at hw⟩
        clear hK hkeep hdep hI hcl
        generalize a.eval = ρ at *
        simp [go_sem, r2]
      · injection ho with ho
        subst ho
        have d27 : nexF w3.heap.size T done 27 (a.eval (.tmp 76)) W := ((hdep ⟨27, .data⟩ (by simp) rfl).2 _ rfl).1 _ rfl
        obtain ⟨b27, e27, k27, l27⟩ := d27
        have d28 : nexF w3.heap.size T done 28 (a.eval (.tmp 77)) W := ((hdep ⟨28, .data⟩ (by simp) rfl).2 _ rfl).1 _ rfl
        have e28 : a.eval (.tmp 77) = .slice (some ⟨T, 0, none⟩) 10 10 := d28
        refine ⟨fun _ K Q hK => ?_, fun hw => by simp [Region.wanted] at hw⟩
        refine wp_append_fresh W (.tmp 76) (.tmp 77) _ rfl w3.heap.size 51 j0 _ 4 32 Try.underlying22 hj0 hy0 hy1 hy2 rfl (by omega) b27 e27 ⟨rfl, .inr ⟨b27, 0, #[], rfl, l27, k27, by omega, by simp [maxLen], rfl, rfl⟩⟩ ⟨T, 0, none⟩ 10 10 (lnCells tenLs) e28 (show Src W 4 (some ⟨T, 0, none⟩) tenLs.length (lnCells tenLs) from (HT.out.upto hI).toSrcR) (one_linesR _) (by omega) (by omega) (by omega) hI.size ?_
        intro v' w' hown hb
        exact hK v' w' (hI.trans (hb.mono hI.size)) (fun _ => hown) (fun j u hd _ h => hkeep _ hb j u hd h)
      · injection ho with ho
        subst ho
        have x0 := (hI.cell (p := ⟨Lb, 0, none⟩) hLb).trans q0
        have x1 := (hI.cell (p := ⟨Lb, 1, none⟩) hLb).trans q1
        have x2 := (hI.cell (p := ⟨Lb, 2, none⟩) hLb).trans q2
        have x3 := (hI.cell (p := ⟨Lb, 3, none⟩) hLb).trans q3
        refine ⟨fun _ K Q hK => wp_of_value (v := .agg #[.int .i64 0, .int .i64 1, .int .i64 1, .int .i64 0]) ?_ (hK _ _ hI rfl (fun j u hd _ h => hkeep _ (Below.refl _ _) j u hd h)), fun hw => by simp [Region.wanted] at hw⟩
        clear hK hkeep hdep hI hcl
        generalize a.eval = ρ at *
        simp [go_sem, r1, x0, x1, x2, x3]
      · injection ho with ho
        subst ho
        have d30 : nexF w3.heap.size T done 30 (a.eval (.tmp 79)) W := ((hdep ⟨30, .data⟩ (by simp) rfl).2 _ rfl).1 _ rfl
        have e30 : a.eval (.tmp 79) = .agg #[.int .i64 0, .int .i64 1, .int .i64 1, .int .i64 0] := d30
        have hb : Below W.heap.size W (W.alloc (.cells #[.int .i64 0, .int .i64 1, .int .i64 1, .int .i64 0] 51)) := (Below.refl _ _).alloc (Nat.le_refl _) _
        refine ⟨fun _ K Q hK => wp_of_value (v := .slice (some ⟨W.heap.size, 0, none⟩) 1 1) (w' := W.alloc (.cells #[.int .i64 0, .int .i64 1, .int .i64 1, .int .i64 0] 51)) ?_ (hK _ _ (hI.trans (hb.mono hI.size)) ⟨_, rfl, Blk.new _ _ _⟩ (fun j u hd _ h => hkeep _ hb j u hd h)), fun hw => by simp [Region.wanted] at hw⟩
        clear hK hkeep hdep hI hcl
        generalize a.eval = ρ at *
        simp [go_sem, e30]
      · injection ho with ho
        subst ho
        have d29 : nexF w3.heap.size T done 29 (a.eval (.tmp 78)) W := ((hdep ⟨29, .data⟩ (by simp) rfl).2 _ rfl).1 _ rfl
        have d31 : nexF w3.heap.size T done 31 (a.eval (.tmp 80)) W := ((hdep ⟨31, .data⟩ (by simp) rfl).2 _ rfl).1 _ rfl
        obtain ⟨b31, e31, k31⟩ := d31
        have hown := d29 hni
        have hsrc : Src W 4 (some ⟨b31, 0, none⟩) 1 (lnCells [(0, 1, 1, 0)]) := (k31.lines [(0, 1, 1, 0)] rfl).toSrcR
        have n67 : ¬ done 67 := fun hd => hni (hcl 33 _ rfl (hcl 34 _ rfl (hcl 67 _ rfl hd ⟨34, .data⟩ (by simp) rfl) ⟨33, .data⟩ (by simp) rfl) ⟨32, .data⟩ (by simp) rfl)
        refine ⟨fun _ K Q hK => ?_, fun hw => by simp [Region.wanted] at hw⟩
        have dn24 : done 24 := hcl 29 _ rfl (hdep ⟨29, .data⟩ (by simp) rfl).1 ⟨24, .chain⟩ (by simp) rfl
        have dn16 : done 16 := hcl 21 _ rfl (hcl 24 _ rfl dn24 ⟨21, .data⟩ (by simp) rfl) ⟨16, .chain⟩ (by simp) rfl
        refine wp_append_any W (.tmp 78) (.tmp 80) _ rfl w3.heap.size 51 j0 _ 4 32 Try.underlying22 hj0 hy0 hy1 hy2 rfl (by omega) _ 10 (lnCells tenLs) rfl hown (some ⟨b31, 0, none⟩) 1 1 (lnCells [(0, 1, 1, 0)]) e31 hsrc (one_linesR _) (by simp only [maxLen]; omega) (by omega) hI.size ?_
        intro v' w' hown' hg _
        refine hK v' w' (hI.trans ((Below.refl _ _).grown hg hI.size (fun j ej => (hown.lt j ej).1))) (long_of hown') ?_
        intro jj v hd _ h
        exact nexF_grow h hown hg hd (fun _ => .inr dn16) (fun _ => .inr dn24) (fun _ => .inl rfl) n67
      · injection ho with ho
        subst ho
        have d32 : nexF w3.heap.size T done 32 (a.eval (.tmp 81)) W := ((hdep ⟨32, .data⟩ (by simp) rfl).2 _ rfl).1 _ rfl
        obtain ⟨A32, c32, e32⟩ := d32
        refine ⟨fun _ K Q hK => wp_of_value (v := .agg #[.int .i64 1, .slice A32 11 c32]) ?_ (hK _ _ hI ⟨_, _, rfl⟩ (fun j u hd _ h => hkeep _ (Below.refl _ _) j u hd h)), fun hw => by simp [Region.wanted] at hw⟩
        clear hK hkeep hdep hI hcl
        generalize a.eval = ρ at *
        simp [go_sem, hc, e32]
      · injection ho with ho
        subst ho
        have d33 : nexF w3.heap.size T done 33 (a.eval (.tmp 82)) W := ((hdep ⟨33, .data⟩ (by simp) rfl).2 _ rfl).1 _ rfl
        obtain ⟨A33, c33, e33⟩ := d33
        refine ⟨fun _ K Q hK => wp_of_value (v := .agg #[.int .i64 1, .slice A33 11 c33, .int .i64 5]) ?_ (hK _ _ hI ⟨_, _, rfl⟩ (fun j u hd _ h => hkeep _ (Below.refl _ _) j u hd h)), fun hw => by simp [Region.wanted] at hw⟩
        clear hK hkeep hdep hI hcl
        generalize a.eval = ρ at *
        simp [go_sem, hc, e33]
      · injection ho with ho
        subst ho
        have x0 := (hI.cell (p := ⟨Lb, 0, none⟩) hLb).trans q0
        have x1 := (hI.cell (p := ⟨Lb, 1, none⟩) hLb).trans q1
        have x2 := (hI.cell (p := ⟨Lb, 2, none⟩) hLb).trans q2
        have x3 := (hI.cell (p := ⟨Lb, 3, none⟩) hLb).trans q3
        refine ⟨fun _ K Q hK => wp_of_value (v := .agg #[.int .i64 0, .int .i64 1, .int .i64 1, .int .i64 0]) ?_ (hK _ _ hI rfl (fun j u hd _ h => hkeep _ (Below.refl _ _) j u hd h)), fun hw => by simp [Region.wanted] at hw⟩
        clear hK hkeep hdep hI hcl
        generalize a.eval = ρ at *
        simp [go_sem, r1, x0, x1, x2, x3]
      · injection ho with ho
        subst ho
        have d35 : nexF w3.heap.size T done 35 (a.eval (.tmp 84)) W := ((hdep ⟨35, .data⟩ (by simp) rfl).2 _ rfl).1 _ rfl
        have e35 : a.eval (.tmp 84) = .agg #[.int .i64 0, .int .i64 1, .int .i64 1, .int .i64 0] := d35
        have hb : Below W.heap.size W (W.alloc (.cells #[.int .i64 0, .int .i64 1, .int .i64 1, .int .i64 0] 51)) := (Below.refl _ _).alloc (Nat.le_refl _) _
        refine ⟨fun _ K Q hK => wp_of_value (v := .slice (some ⟨W.heap.size, 0, none⟩) 1 1) (w' := W.alloc (.cells #[.int .i64 0, .int .i64 1, .int .i64 1, .int .i64 0] 51)) ?_ (hK _ _ (hI.trans (hb.mono hI.size)) ⟨_, rfl, Blk.new _ _ _⟩ (fun j u hd _ h => hkeep _ hb j u hd h)), fun hw => by simp [Region.wanted] at hw⟩
        clear hK hkeep hdep hI hcl
        generalize a.eval = ρ at *
        simp [go_sem, e35]
      · injection ho with ho
        subst ho
        have d36 : nexF w3.heap.size T done 36 (a.eval (.tmp 85)) W := ((hdep ⟨36, .data⟩ (by simp) rfl).2 _ rfl).1 _ rfl
        obtain ⟨b36, e36, k36⟩ := d36
        refine ⟨fun _ K Q hK => wp_of_value (v := .agg #[.int .i64 1, .slice (some ⟨b36, 0, none⟩) 1 1]) ?_ (hK _ _ hI ⟨_, rfl, k36⟩ (fun j u hd _ h => hkeep _ (Below.refl _ _) j u hd h)), fun hw => by simp [Region.wanted] at hw⟩
        clear hK hkeep hdep hI hcl
        generalize a.eval = ρ at *
        simp [go_sem, hc, e36]
      · injection ho with ho
        subst ho
        have d37 : nexF w3.heap.size T done 37 (a.eval (.tmp 86)) W := ((hdep ⟨37, .data⟩ (by simp) rfl).2 _ rfl).1 _ rfl
        obtain ⟨b37, e37, k37⟩ := d37
        refine ⟨fun _ K Q hK => wp_of_value (v := .agg #[.int .i64 1, .slice (some ⟨b37, 0, none⟩) 1 1, .int .i64 1]) ?_ (hK _ _ hI ⟨_, rfl, k37⟩ (fun j u hd _ h => hkeep _ (Below.refl _ _) j u hd h)), fun hw => by simp [Region.wanted] at hw⟩
        clear hK hkeep hdep hI hcl
        generalize a.eval = ρ at *
        simp [go_sem, hc, e37]
      · injection ho with ho
        subst ho
        refine ⟨fun _ K Q hK => wp_of_value (v := .agg #[.int .i64 1, .int .i64 1, .int .i64 1, .int .i64 0]) ?_ (hK _ _ hI rfl (fun j u hd _ h => hkeep _ (Below.refl _ _) j u hd h)), fun hw => by simp [Region.wanted] at hw⟩
        clear hK hkeep hdep hI hcl
        generalize a.eval = ρ at *
        simp [go_sem, hc]
      · injection ho with ho
        subst ho
        have d39 : nexF w3.heap.size T done 39 (a.eval (.tmp 88)) W := ((hdep ⟨39, .data⟩ (by simp) rfl).2 _ rfl).1 _ rfl
        have e39 : a.eval (.tmp 88) = .agg #[.int .i64 1, .int .i64 1, .int .i64 1, .int .i64 0] := d39
        have hb : Below W.heap.size W (W.alloc (.cells #[.int .i64 1, .int .i64 1, .int .i64 1, .int .i64 0] 51)) := (Below.refl _ _).alloc (Nat.le_refl _) _
        refine ⟨fun _ K Q hK => wp_of_value (v := .slice (some ⟨W.heap.size, 0, none⟩) 1 1) (w' := W.alloc (.cells #[.int .i64 1, .int .i64 1, .int .i64 1, .int .i64 0] 51)) ?_ (hK _ _ (hI.trans (hb.mono hI.size)) ⟨_, rfl, Blk.new _ _ _⟩ (fun j u hd _ h => hkeep _ hb j u hd h)), fun hw => by simp [Region.wanted] at hw⟩
        clear hK hkeep hdep hI hcl
        generalize a.eval = ρ at *
        simp [go_sem, e39]
      · injection ho with ho
        subst ho
        have d40 : nexF w3.heap.size T done 40 (a.eval (.tmp 89)) W := ((hdep ⟨40, .data⟩ (by simp) rfl).2 _ rfl).1 _ rfl
        obtain ⟨b40, e40, k40⟩ := d40
        refine ⟨fun _ K Q hK => wp_of_value (v := .agg #[.int .i64 2, .slice (some ⟨b40, 0, none⟩) 1 1]) ?_ (hK _ _ hI ⟨_, rfl, k40⟩ (fun j u hd _ h => hkeep _ (Below.refl _ _) j u hd h)), fun hw => by simp [Region.wanted] at hw⟩
        clear hK hkeep hdep hI hcl
        generalize a.eval = ρ at *
        simp [go_sem, hc, e40]
      · injection ho with ho
        subst ho
        have d41 : nexF w3.heap.size T done 41 (a.eval (.tmp 90)) W := ((hdep ⟨41, .data⟩ (by simp) rfl).2 _ rfl).1 _ rfl
        obtain ⟨b41, e41, k41⟩ := d41
        refine ⟨fun _ K Q hK => wp_of_value (v := .agg #[.int .i64 2, .slice (some ⟨b41, 0, none⟩) 1 1, .int .i64 1]) ?_ (hK _ _ hI ⟨_, rfl, k41⟩ (fun j u hd _ h => hkeep _ (Below.refl _ _) j u hd h)), fun hw => by simp [Region.wanted] at hw⟩
        clear hK hkeep hdep hI hcl
        generalize a.eval = ρ at *
        simp [go_sem, hc, e41]
      · injection ho with ho
        subst ho
        refine ⟨fun _ K Q hK => wp_of_value (v := .agg #[.int .i64 (-1), .int .i64 1, .int .i64 1, .int .i64 0]) ?_ (hK _ _ hI rfl (fun j u hd _ h => hkeep _ (Below.refl _ _) j u hd h)), fun hw => by simp [Region.wanted] at hw⟩
        clear hK hkeep hdep hI hcl
        generalize a.eval = ρ at *
        simp [go_sem, hc]
      · injection ho with ho
        subst ho
        have d43 : nexF w3.heap.size T done 43 (a.eval (.tmp 92)) W := ((hdep ⟨43, .data⟩ (by simp) rfl).2 _ rfl).1 _ rfl
        have e43 : a.eval (.tmp 92) = .agg #[.int .i64 (-1), .int .i64 1, .int .i64 1, .int .i64 0] := d43
        have hb : Below W.heap.size W (W.alloc (.cells #[.int .i64 (-1), .int .i64 1, .int .i64 1, .int .i64 0] 51)) := (Below.refl _ _).alloc (Nat.le_refl _) _
        refine ⟨fun _ K Q hK => wp_of_value (v := .slice (some ⟨W.heap.size, 0, none⟩) 1 1) (w' := W.alloc (.cells #[.int .i64 (-1), .int .i64 1, .int .i64 1, .int .i64 0] 51)) ?_ (hK _ _ (hI.trans (hb.mono hI.size)) ⟨_, rfl, Blk.new _ _ _⟩ (fun j u hd _ h => hkeep _ hb j u hd h)), fun hw => by simp [Region.wanted] at hw⟩
        clear hK hkeep hdep hI hcl
        generalize a.eval = ρ at *
        simp [go_sem, e43]
      · injection ho with ho
        subst ho
        have d44 : nexF w3.heap.size T done 44 (a.eval (.tmp 93)) W := ((hdep ⟨44, .data⟩ (by simp) rfl).2 _ rfl).1 _ rfl
        obtain ⟨b44, e44, k44⟩ := d44
        refine ⟨fun _ K Q hK => wp_of_value (v := .agg #[.int .i64 2, .slice (some ⟨b44, 0, none⟩) 1 1]) ?_ (hK _ _ hI ⟨_, rfl, k44⟩ (fun j u hd _ h => hkeep _ (Below.refl _ _) j u hd h)), fun hw => by simp [Region.wanted] at hw⟩
        clear hK hkeep hdep hI hcl
        generalize a.eval = ρ at *
        simp [go_sem, hc, e44]
      · injection ho with ho
        subst ho
        have d45 : nexF w3.heap.size T done 45 (a.eval (.tmp 94)) W := ((hdep ⟨45, .data⟩ (by simp) rfl).2 _ rfl).1 _ rfl
        obtain ⟨b45, e45, k45⟩ := d45
        refine ⟨fun _ K Q hK => wp_of_value (v := .agg #[.int .i64 2, .slice (some ⟨b45, 0, none⟩) 1 1, .int .i64 1]) ?_ (hK _ _ hI ⟨_, rfl, k45⟩ (fun j u hd _ h => hkeep _ (Below.refl _ _) j u hd h)), fun hw => by simp [Region.wanted] at hw⟩
        clear hK hkeep hdep hI hcl
        generalize a.eval = ρ at *
        simp [go_sem, hc, e45]
      · injection ho with ho
        subst ho
        refine ⟨fun _ K Q hK => wp_of_value (v := .agg #[.int .i64 1, .int .i64 0, .int .i64 1000, .int .i64 1000000]) ?_ (hK _ _ hI rfl (fun j u hd _ h => hkeep _ (Below.refl _ _) j u hd h)), fun hw => by simp [Region.wanted] at hw⟩
        clear hK hkeep hdep hI hcl
        generalize a.eval = ρ at *
        simp [go_sem, hc]
      · injection ho with ho
        subst ho
        have d47 : nexF w3.heap.size T done 47 (a.eval (.tmp 96)) W := ((hdep ⟨47, .data⟩ (by simp) rfl).2 _ rfl).1 _ rfl
        have e47 : a.eval (.tmp 96) = .agg #[.int .i64 1, .int .i64 0, .int .i64 1000, .int .i64 1000000] := d47
        have hb : Below W.heap.size W (W.alloc (.cells #[.int .i64 1, .int .i64 0, .int .i64 1000, .int .i64 1000000] 51)) := (Below.refl _ _).alloc (Nat.le_refl _) _
        refine ⟨fun _ K Q hK => wp_of_value (v := .slice (some ⟨W.heap.size, 0, none⟩) 1 1) (w' := W.alloc (.cells #[.int .i64 1, .int .i64 0, .int .i64 1000, .int .i64 1000000] 51)) ?_ (hK _ _ (hI.trans (hb.mono hI.size)) ⟨_, rfl, Blk.new _ _ _⟩ (fun j u hd _ h => hkeep _ hb j u hd h)), fun hw => by simp [Region.wanted] at hw⟩
        clear hK hkeep hdep hI hcl
        generalize a.eval = ρ at *
        simp [go_sem, e47]
      · injection ho with ho
        subst ho
        have d48 : nexF w3.heap.size T done 48 (a.eval (.tmp 97)) W := ((hdep ⟨48, .data⟩ (by simp) rfl).2 _ rfl).1 _ rfl
        obtain ⟨b48, e48, k48⟩ := d48
        refine ⟨fun _ K Q hK => wp_of_value (v := .agg #[.int .i64 2, .slice (some ⟨b48, 0, none⟩) 1 1]) ?_ (hK _ _ hI ⟨_, rfl, k48⟩ (fun j u hd _ h => hkeep _ (Below.refl _ _) j u hd h)), fun hw => by simp [Region.wanted] at hw⟩
        clear hK hkeep hdep hI hcl
        generalize a.eval = ρ at *
        simp [go_sem, hc, e48]
      · injection ho with ho
        subst ho
        have d49 : nexF w3.heap.size T done 49 (a.eval (.tmp 98)) W := ((hdep ⟨49, .data⟩ (by simp) rfl).2 _ rfl).1 _ rfl
        obtain ⟨b49, e49, k49⟩ := d49
        refine ⟨fun _ K Q hK => wp_of_value (v := .agg #[.int .i64 2, .slice (some ⟨b49, 0, none⟩) 1 1, .int .i64 0]) ?_ (hK _ _ hI ⟨_, rfl, k49⟩ (fun j u hd _ h => hkeep _ (Below.refl _ _) j u hd h)), fun hw => by simp [Region.wanted] at hw⟩
        clear hK hkeep hdep hI hcl
        generalize a.eval = ρ at *
        simp [go_sem, hc, e49]
      · injection ho with ho
        subst ho
        refine ⟨fun _ K Q hK => wp_of_value (v := .agg #[.int .i64 1, .int .i64 0, .int .i64 1001, .int .i64 0]) ?_ (hK _ _ hI rfl (fun j u hd _ h => hkeep _ (Below.refl _ _) j u hd h)), fun hw => by simp [Region.wanted] at hw⟩
        clear hK hkeep hdep hI hcl
        generalize a.eval = ρ at *
        simp [go_sem, hc]
      · injection ho with ho
        subst ho
        have d51 : nexF w3.heap.size T done 51 (a.eval (.tmp 100)) W := ((hdep ⟨51, .data⟩ (by simp) rfl).2 _ rfl).1 _ rfl
        have e51 : a.eval (.tmp 100) = .agg #[.int .i64 1, .int .i64 0, .int .i64 1001, .int .i64 0] := d51
        have hb : Below W.heap.size W (W.alloc (.cells #[.int .i64 1, .int .i64 0, .int .i64 1001, .int .i64 0] 51)) := (Below.refl _ _).alloc (Nat.le_refl _) _
        refine ⟨fun _ K Q hK => wp_of_value (v := .slice (some ⟨W.heap.size, 0, none⟩) 1 1) (w' := W.alloc (.cells #[.int .i64 1, .int .i64 0, .int .i64 1001, .int .i64 0] 51)) ?_ (hK _ _ (hI.trans (hb.mono hI.size)) ⟨_, rfl, Blk.new _ _ _⟩ (fun j u hd _ h => hkeep _ hb j u hd h)), fun hw => by simp [Region.wanted] at hw⟩
        clear hK hkeep hdep hI hcl
        generalize a.eval = ρ at *
        simp [go_sem, e51]
      · injection ho with ho
        subst ho
        have d52 : nexF w3.heap.size T done 52 (a.eval (.tmp 101)) W := ((hdep ⟨52, .data⟩ (by simp) rfl).2 _ rfl).1 _ rfl
        obtain ⟨b52, e52, k52⟩ := d52
        refine ⟨fun _ K Q hK => wp_of_value (v := .agg #[.int .i64 2, .slice (some ⟨b52, 0, none⟩) 1 1]) ?_ (hK _ _ hI ⟨_, rfl, k52⟩ (fun j u hd _ h => hkeep _ (Below.refl _ _) j u hd h)), fun hw => by simp [Region.wanted] at hw⟩
        clear hK hkeep hdep hI hcl
        generalize a.eval = ρ at *
        simp [go_sem, hc, e52]
      · injection ho with ho
        subst ho
        have d53 : nexF w3.heap.size T done 53 (a.eval (.tmp 102)) W := ((hdep ⟨53, .data⟩ (by simp) rfl).2 _ rfl).1 _ rfl
        obtain ⟨b53, e53, k53⟩ := d53
        refine ⟨fun _ K Q hK => wp_of_value (v := .agg #[.int .i64 2, .slice (some ⟨b53, 0, none⟩) 1 1, .int .i64 1]) ?_ (hK _ _ hI ⟨_, rfl, k53⟩ (fun j u hd _ h => hkeep _ (Below.refl _ _) j u hd h)), fun hw => by simp [Region.wanted] at hw⟩
        clear hK hkeep hdep hI hcl
        generalize a.eval = ρ at *
        simp [go_sem, hc, e53]
      · injection ho with ho
        subst ho
        refine ⟨fun _ K Q hK => wp_of_value (v := .agg #[.int .i64 1, .int .i64 0, .int .i64 0, .int .i64 0]) ?_ (hK _ _ hI rfl (fun j u hd _ h => hkeep _ (Below.refl _ _) j u hd h)), fun hw => by simp [Region.wanted] at hw⟩
        clear hK hkeep hdep hI hcl
        generalize a.eval = ρ at *
        simp [go_sem, hc]
      · injection ho with ho
        subst ho
        have d55 : nexF w3.heap.size T done 55 (a.eval (.tmp 104)) W := ((hdep ⟨55, .data⟩ (by simp) rfl).2 _ rfl).1 _ rfl
        have e55 : a.eval (.tmp 104) = .agg #[.int .i64 1, .int .i64 0, .int .i64 0, .int .i64 0] := d55
        have hb : Below W.heap.size W (W.alloc (.cells #[.int .i64 1, .int .i64 0, .int .i64 0, .int .i64 0] 51)) := (Below.refl _ _).alloc (Nat.le_refl _) _
        refine ⟨fun _ K Q hK => wp_of_value (v := .slice (some ⟨W.heap.size, 0, none⟩) 1 1) (w' := W.alloc (.cells #[.int .i64 1, .int .i64 0, .int .i64 0, .int .i64 0] 51)) ?_ (hK _ _ (hI.trans (hb.mono hI.size)) ⟨_, rfl, Blk.new _ _ _⟩ (fun j u hd _ h => hkeep _ hb j u hd h)), fun hw => by simp [Region.wanted] at hw⟩
        clear hK hkeep hdep hI hcl
        generalize a.eval = ρ at *
        simp [go_sem, e55]
      · injection ho with ho
        subst ho
        have d56 : nexF w3.heap.size T done 56 (a.eval (.tmp 105)) W := ((hdep ⟨56, .data⟩ (by simp) rfl).2 _ rfl).1 _ rfl
        obtain ⟨b56, e56, k56⟩ := d56
        refine ⟨fun _ K Q hK => wp_of_value (v := .agg #[.int .i64 2, .slice (some ⟨b56, 0, none⟩) 1 1]) ?_ (hK _ _ hI ⟨_, rfl, k56⟩ (fun j u hd _ h => hkeep _ (Below.refl _ _) j u hd h)), fun hw => by simp [Region.wanted] at hw⟩
        clear hK hkeep hdep hI hcl
        generalize a.eval = ρ at *
        simp [go_sem, hc, e56]
      · injection ho with ho
        subst ho
        have d57 : nexF w3.heap.size T done 57 (a.eval (.tmp 106)) W := ((hdep ⟨57, .data⟩ (by simp) rfl).2 _ rfl).1 _ rfl
        obtain ⟨b57, e57, k57⟩ := d57
        refine ⟨fun _ K Q hK => wp_of_value (v := .agg #[.int .i64 2, .slice (some ⟨b57, 0, none⟩) 1 1, .int .i64 1]) ?_ (hK _ _ hI ⟨_, rfl, k57⟩ (fun j u hd _ h => hkeep _ (Below.refl _ _) j u hd h)), fun hw => by simp [Region.wanted] at hw⟩
        clear hK hkeep hdep hI hcl
        generalize a.eval = ρ at *
        simp [go_sem, hc, e57]
      · injection ho with ho
        subst ho
        refine ⟨fun _ K Q hK => wp_of_value (v := .agg #[.int .i64 1, .int .i64 0, .int .i64 1, .int .i64 1000001]) ?_ (hK _ _ hI rfl (fun j u hd _ h => hkeep _ (Below.refl _ _) j u hd h)), fun hw => by simp [Region.wanted] at hw⟩
        clear hK hkeep hdep hI hcl
        generalize a.eval = ρ at *
        simp [go_sem, hc]
      · injection ho with ho
        subst ho
        have d59 : nexF w3.heap.size T done 59 (a.eval (.tmp 108)) W := ((hdep ⟨59, .data⟩ (by simp) rfl).2 _ rfl).1 _ rfl
        have e59 : a.eval (.tmp 108) = .agg #[.int .i64 1, .int .i64 0, .int .i64 1, .int .i64 1000001] := d59
        have hb : Below W.heap.size W (W.alloc (.cells #[.int .i64 1, .int .i64 0, .int .i64 1, .int .i64 1000001] 51)) := (Below.refl _ _).alloc (Nat.le_refl _) _
        refine ⟨fun _ K Q hK => wp_of_value (v := .slice (some ⟨W.heap.size, 0, none⟩) 1 1) (w' := W.alloc (.cells #[.int .i64 1, .int .i64 0, .int .i64 1, .int .i64 1000001] 51)) ?_ (hK _ _ (hI.trans (hb.mono hI.size)) ⟨_, rfl, Blk.new _ _ _⟩ (fun j u hd _ h => hkeep _ hb j u hd h)), fun hw => by simp [Region.wanted] at hw⟩
        clear hK hkeep hdep hI hcl
        generalize a.eval = ρ at *
        simp [go_sem, e59]
      · injection ho with ho
        subst ho
        have d60 : nexF w3.heap.size T done 60 (a.eval (.tmp 109)) W := ((hdep ⟨60, .data⟩ (by simp) rfl).2 _ rfl).1 _ rfl
        obtain ⟨b60, e60, k60⟩ := d60
        refine ⟨fun _ K Q hK => wp_of_value (v := .agg #[.int .i64 2, .slice (some ⟨b60, 0, none⟩) 1 1]) ?_ (hK _ _ hI ⟨_, rfl, k60⟩ (fun j u hd _ h => hkeep _ (Below.refl _ _) j u hd h)), fun hw => by simp [Region.wanted] at hw⟩
        clear hK hkeep hdep hI hcl
        generalize a.eval = ρ at *
        simp [go_sem, hc, e60]
      · injection ho with ho
        subst ho
        have d61 : nexF w3.heap.size T done 61 (a.eval (.tmp 110)) W := ((hdep ⟨61, .data⟩ (by simp) rfl).2 _ rfl).1 _ rfl
        obtain ⟨b61, e61, k61⟩ := d61
        refine ⟨fun _ K Q hK => wp_of_value (v := .agg #[.int .i64 2, .slice (some ⟨b61, 0, none⟩) 1 1, .int .i64 1]) ?_ (hK _ _ hI ⟨_, rfl, k61⟩ (fun j u hd _ h => hkeep _ (Below.refl _ _) j u hd h)), fun hw => by simp [Region.wanted] at hw⟩
        clear hK hkeep hdep hI hcl
        generalize a.eval = ρ at *
        simp [go_sem, hc, e61]
      · injection ho with ho
        subst ho
        refine ⟨fun _ K Q hK => wp_of_value (v := .agg #[.int .i64 1, .int .i64 0, .int .i64 1, .int .i64 (-1)]) ?_ (hK _ _ hI rfl (fun j u hd _ h => hkeep _ (Below.refl _ _) j u hd h)), fun hw => by simp [Region.wanted] at hw⟩
        clear hK hkeep hdep hI hcl
        generalize a.eval = ρ at *
        simp [go_sem, hc]
      · injection ho with ho
        subst ho
        have d63 : nexF w3.heap.size T done 63 (a.eval (.tmp 112)) W := ((hdep ⟨63, .data⟩ (by simp) rfl).2 _ rfl).1 _ rfl
        have e63 : a.eval (.tmp 112) = .agg #[.int .i64 1, .int .i64 0, .int .i64 1, .int .i64 (-1)] := d63
        have hb : Below W.heap.size W (W.alloc (.cells #[.int .i64 1, .int .i64 0, .int .i64 1, .int .i64 (-1)] 51)) := (Below.refl _ _).alloc (Nat.le_refl _) _
        refine ⟨fun _ K Q hK => wp_of_value (v := .slice (some ⟨W.heap.size, 0, none⟩) 1 1) (w' := W.alloc (.cells #[.int .i64 1, .int .i64 0, .int .i64 1, .int .i64 (-1)] 51)) ?_ (hK _ _ (hI.trans (hb.mono hI.size)) ⟨_, rfl, Blk.new _ _ _⟩ (fun j u hd _ h => hkeep _ hb j u hd h)), fun hw => by simp [Region.wanted] at hw⟩
        clear hK hkeep hdep hI hcl
        generalize a.eval = ρ at *
        simp [go_sem, e63]
      · injection ho with ho
        subst ho
        have d64 : nexF w3.heap.size T done 64 (a.eval (.tmp 113)) W := ((hdep ⟨64, .data⟩ (by simp) rfl).2 _ rfl).1 _ rfl
        obtain ⟨b64, e64, k64⟩ := d64
        refine ⟨fun _ K Q hK => wp_of_value (v := .agg #[.int .i64 2, .slice (some ⟨b64, 0, none⟩) 1 1]) ?_ (hK _ _ hI ⟨_, rfl, k64⟩ (fun j u hd _ h => hkeep _ (Below.refl _ _) j u hd h)), fun hw => by simp [Region.wanted] at hw⟩
        clear hK hkeep hdep hI hcl
        generalize a.eval = ρ at *
        simp [go_sem, hc, e64]
      · injection ho with ho
        subst ho
        have d65 : nexF w3.heap.size T done 65 (a.eval (.tmp 114)) W := ((hdep ⟨65, .data⟩ (by simp) rfl).2 _ rfl).1 _ rfl
        obtain ⟨b65, e65, k65⟩ := d65
        refine ⟨fun _ K Q hK => wp_of_value (v := .agg #[.int .i64 2, .slice (some ⟨b65, 0, none⟩) 1 1, .int .i64 1]) ?_ (hK _ _ hI ⟨_, rfl, k65⟩ (fun j u hd _ h => hkeep _ (Below.refl _ _) j u hd h)), fun hw => by simp [Region.wanted] at hw⟩
        clear hK hkeep hdep hI hcl
        generalize a.eval = ρ at *
        simp [go_sem, hc, e65]
      · injection ho with ho
        subst ho
        have d1 : nexF w3.heap.size T done 1 (a.eval (.tmp 50)) W := ((hdep ⟨1, .data⟩ (by simp) rfl).2 _ rfl).1 _ rfl
        have e1 : a.eval (.tmp 50) = .agg #[.int .i64 0, .slice none 0 0, .int .i64 1] := d1
        have d3 : nexF w3.heap.size T done 3 (a.eval (.tmp 52)) W := ((hdep ⟨3, .data⟩ (by simp) rfl).2 _ rfl).1 _ rfl
        have e3 : a.eval (.tmp 52) = .agg #[.int .i64 1, .slice none 0 0, .int .i64 0] := d3
        have d5 : nexF w3.heap.size T done 5 (a.eval (.tmp 54)) W := ((hdep ⟨5, .data⟩ (by simp) rfl).2 _ rfl).1 _ rfl
        have e5 : a.eval (.tmp 54) = .agg #[.int .i64 6, .slice none 0 0, .int .i64 0] := d5
        have d7 : nexF w3.heap.size T done 7 (a.eval (.tmp 56)) W := ((hdep ⟨7, .data⟩ (by simp) rfl).2 _ rfl).1 _ rfl
        have e7 : a.eval (.tmp 56) = .agg #[.int .i64 7, .slice none 0 0, .int .i64 1] := d7
        have d10 : nexF w3.heap.size T done 10 (a.eval (.tmp 59)) W := ((hdep ⟨10, .data⟩ (by simp) rfl).2 _ rfl).1 _ rfl
        have e10 : a.eval (.tmp 59) = .agg #[.int .i64 2, .slice (some ⟨T, 0, none⟩) 10 10, .int .i64 0] := d10
        have d18 : nexF w3.heap.size T done 18 (a.eval (.tmp 67)) W := ((hdep ⟨18, .data⟩ (by simp) rfl).2 _ rfl).1 _ rfl
        obtain ⟨A18, c18, e18⟩ := d18
        have d26 : nexF w3.heap.size T done 26 (a.eval (.tmp 75)) W := ((hdep ⟨26, .data⟩ (by simp) rfl).2 _ rfl).1 _ rfl
        obtain ⟨A26, c26, e26⟩ := d26
        have d34 : nexF w3.heap.size T done 34 (a.eval (.tmp 83)) W := ((hdep ⟨34, .data⟩ (by simp) rfl).2 _ rfl).1 _ rfl
        obtain ⟨A34, c34, e34⟩ := d34
        have d38 : nexF w3.heap.size T done 38 (a.eval (.tmp 87)) W := ((hdep ⟨38, .data⟩ (by simp) rfl).2 _ rfl).1 _ rfl
        obtain ⟨b38, e38, k38⟩ := d38
        have d42 : nexF w3.heap.size T done 42 (a.eval (.tmp 91)) W := ((hdep ⟨42, .data⟩ (by simp) rfl).2 _ rfl).1 _ rfl
        obtain ⟨b42, e42, k42⟩ := d42
        have d46 : nexF w3.heap.size T done 46 (a.eval (.tmp 95)) W := ((hdep ⟨46, .data⟩ (by simp) rfl).2 _ rfl).1 _ rfl
        obtain ⟨b46, e46, k46⟩ := d46
        have d50 : nexF w3.heap.size T done 50 (a.eval (.tmp 99)) W := ((hdep ⟨50, .data⟩ (by simp) rfl).2 _ rfl).1 _ rfl
        obtain ⟨b50, e50, k50⟩ := d50
        have d54 : nexF w3.heap.size T done 54 (a.eval (.tmp 103)) W := ((hdep ⟨54, .data⟩ (by simp) rfl).2 _ rfl).1 _ rfl
        obtain ⟨b54, e54, k54⟩ := d54
        have d58 : nexF w3.heap.size T done 58 (a.eval (.tmp 107)) W := ((hdep ⟨58, .data⟩ (by simp) rfl).2 _ rfl).1 _ rfl
        obtain ⟨b58, e58, k58⟩ := d58
        have d62 : nexF w3.heap.size T done 62 (a.eval (.tmp 111)) W := ((hdep ⟨62, .data⟩ (by simp) rfl).2 _ rfl).1 _ rfl
        obtain ⟨b62, e62, k62⟩ := d62
        have d66 : nexF w3.heap.size T done 66 (a.eval (.tmp 115)) W := ((hdep ⟨66, .data⟩ (by simp) rfl).2 _ rfl).1 _ rfl
        obtain ⟨b66, e66, k66⟩ := d66
        have hb : Below W.heap.size W (W.alloc (.cells #[.int .i64 0, .slice none 0 0, .int .i64 1, .int .i64 1, .slice none 0 0, .int .i64 0, .int .i64 6, .slice none 0 0, .int .i64 0, .int .i64 7, .slice none 0 0, .int .i64 1, .int .i64 2, .slice (some ⟨T, 0, none⟩) 10 10, .int .i64 0, .int .i64 2, .slice A18 11 c18, .int .i64 5, .int .i64 0, .slice A26 11 c26, .int .i64 1, .int .i64 1, .slice A34 11 c34, .int .i64 5, .int .i64 1, .slice (some ⟨b38, 0, none⟩) 1 1, .int .i64 1, .int .i64 2, .slice (some ⟨b42, 0, none⟩) 1 1, .int .i64 1, .int .i64 2, .slice (some ⟨b46, 0, none⟩) 1 1, .int .i64 1, .int .i64 2, .slice (some ⟨b50, 0, none⟩) 1 1, .int .i64 0, .int .i64 2, .slice (some ⟨b54, 0, none⟩) 1 1, .int .i64 1, .int .i64 2, .slice (some ⟨b58, 0, none⟩) 1 1, .int .i64 1, .int .i64 2, .slice (some ⟨b62, 0, none⟩) 1 1, .int .i64 1, .int .i64 2, .slice (some ⟨b66, 0, none⟩) 1 1, .int .i64 1] 52)) := (Below.refl _ _).alloc (Nat.le_refl _) _
        refine ⟨fun _ K Q hK => wp_of_value (v := .slice (some ⟨W.heap.size, 0, none⟩) 16 16) (w' := W.alloc (.cells #[.int .i64 0, .slice none 0 0, .int .i64 1, .int .i64 1, .slice none 0 0, .int .i64 0, .int .i64 6, .slice none 0 0, .int .i64 0, .int .i64 7, .slice none 0 0, .int .i64 1, .int .i64 2, .slice (some ⟨T, 0, none⟩) 10 10, .int .i64 0, .int .i64 2, .slice A18 11 c18, .int .i64 5, .int .i64 0, .slice A26 11 c26, .int .i64 1, .int .i64 1, .slice A34 11 c34, .int .i64 5, .int .i64 1, .slice (some ⟨b38, 0, none⟩) 1 1, .int .i64 1, .int .i64 2, .slice (some ⟨b42, 0, none⟩) 1 1, .int .i64 1, .int .i64 2, .slice (some ⟨b46, 0, none⟩) 1 1, .int .i64 1, .int .i64 2, .slice (some ⟨b50, 0, none⟩) 1 1, .int .i64 0, .int .i64 2, .slice (some ⟨b54, 0, none⟩) 1 1, .int .i64 1, .int .i64 2, .slice (some ⟨b58, 0, none⟩) 1 1, .int .i64 1, .int .i64 2, .slice (some ⟨b62, 0, none⟩) 1 1, .int .i64 1, .int .i64 2, .slice (some ⟨b66, 0, none⟩) 1 1, .int .i64 1] 52)) ?_ (hK _ _ (hI.trans (hb.mono hI.size)) ⟨_, rfl, nex_fin ((HT.out.upto hI).upto hb) (k38.upto hb) (k42.upto hb) (k46.upto hb) (k50.upto hb) (k54.upto hb) (k58.upto hb) (k62.upto hb) (k66.upto hb) (Blk.new _ _ _)⟩ (fun j u hd _ h => hkeep _ hb j u hd h)), fun hw => by simp [Region.wanted] at hw⟩
        clear hK hkeep hdep hI hcl
        generalize a.eval = ρ at *
        simp [go_sem, e1, e3, e5, e7, e10, e18, e26, e34, e38, e42, e46, e50, e54, e58, e62, e66]
      · injection ho with ho
        subst ho
        have d67 : nexF w3.heap.size T done 67 (a.eval (.tmp 116)) W := ((hdep ⟨67, .data⟩ (by simp) rfl).2 _ rfl).1 _ rfl
        obtain ⟨b67, e67, k67⟩ := d67
        refine ⟨fun _ K Q hK => wp_of_value (v := .int .i64 16) ?_ (hK _ _ hI rfl (fun j u hd _ h => hkeep _ (Below.refl _ _) j u hd h)), fun hw => by simp [Region.wanted] at hw⟩
        clear hK hkeep hdep hI hcl
        generalize a.eval = ρ at *
        simp [go_sem, e67]
      · injection ho with ho
        subst ho
        refine ⟨fun _ K Q hK => wp_of_value (v := .int .i64 0) ?_ (hK _ _ hI rfl (fun j u hd _ h => hkeep _ (Below.refl _ _) j u hd h)), fun hw => by simp [Region.wanted] at hw⟩
        clear hK hkeep hdep hI hcl
        generalize a.eval = ρ at *
        simp [go_sem, hc]
      · simp at ho
    · intro done vs W hall hI hF
      obtain ⟨g, hg, hR⟩ : nexF w3.heap.size T done 67 (vs 67) W := hF 67 (by decide)
      have h68 : nexF w3.heap.size T done 68 (vs 68) W := hF 68 (by decide)
      have h69 : nexF w3.heap.size T done 69 (vs 69) W := hF 69 (by decide)
      have H := Lib.hid (And.intro hg (And.intro h68 (And.intro h69 (And.intro hR hI))))
      clear hF hg hR h68 h69 hI
      simp only [List.append_eq, List.cons_append, List.nil_append, putAll, Act.put, List.setIfInBounds_toArray, List.set_cons_zero, List.set_cons_succ, Nat.reduceAdd]
      go_wp2_with fail
      go_meet
      exact ⟨g, H.out.1, H.out.2.1, H.out.2.2.1, H.out.2.2.2.1, H.out.2.2.2.2⟩
  case rest =>
    obtain ⟨g, rfl, rfl, rfl, hR, hb⟩ := hcut
    have HR := Lib.hid hR
    have HBC := Lib.hid (HB3.out.trans (hb.mono HB3.out.size))
    clear hR hb HB3 HT q0 q1 q2 q3 hLb
    go_wp2_with fail
    go_loopg [4, 118] 16 (fun gm s4 i wr => ∃ k : Nat, k + gm = 16 ∧ i = .int .i64 k ∧ NexRows g wr ∧ Below w.heap.size w wr)
    case atStart => exact ⟨0, by omega, rfl, HR.out, HBC.out⟩
    case round =>
      clear HR HBC
      obtain ⟨k, hkg, rfl, hR, hbel⟩ := hrel
      have HR := Lib.hid hR
      have HBW := Lib.hid hbel
      clear hR hbel
      cases gk with
      | zero =>
        obtain rfl : k = 16 := by omega
        clear hkg HR
        go_wp2_with fail
        refine (three_any _).mono ?_
        rintro e w5 ⟨A3, rfl, hl, hb⟩
        have HL := Lib.hid hl
        clear hl
        simp only [show threeLs.length = 3 from rfl]
        have HB20 := Lib.hid (HBW.out.trans (hb.mono HBW.out.size))
        clear HBW
        clear hb
        go_wp2_with fail
        obtain ⟨n0, n1, hO, hzn, hb⟩ := nex_outs w5 A3
        generalize hX : (((((((w5.alloc (.cells #[.int .i64 3, .slice A3 3 3] 24)).alloc (.cells #[.int .i64 0, .int .i64 1, .int .i64 2] 3)).alloc (.cells #[.int .i64 1, .int .i64 1] 3)).alloc (.cells #[.int .i64 2, .int .i64 1] 3)).alloc (.cells #[.int .i64 3] 3)).alloc (.cells #[.int .i64 (-1)] 3)).alloc (.cells #[.slice none 0 0, .int .i64 0, .slice (some ⟨w5.heap.size + 1, 0, none⟩) 3 3, .int .i64 0, .slice (some ⟨w5.heap.size + 1 + 1, 0, none⟩) 2 2, .int .i64 1, .slice (some ⟨w5.heap.size + 1 + 1 + 1, 0, none⟩) 2 2, .int .i64 1, .slice (some ⟨w5.heap.size + 1 + 1 + 1 + 1, 0, none⟩) 1 1, .int .i64 1, .slice (some ⟨w5.heap.size + 1 + 1 + 1 + 1 + 1, 0, none⟩) 1 1, .int .i64 1] 55)) = w6 at *
        clear hX
        have HOT := Lib.hid hO
        clear hO
        have HB21 := Lib.hid (HB20.out.trans (hb.mono HB20.out.size))
        clear HB20
        replace HL := Lib.hid (HL.out.upto hb)
        clear hb
        generalize hgg : w5.heap.size + 1 + 1 + 1 + 1 + 1 + 1 = g2 at *
        generalize w5.heap.size = Bn at *
        clear hgg
        go_loopg [7, 8, 9, 10, 11, 12, 13, 14, 143] 6 (fun gm s7 s8 s9 s10 s11 s12 s13 s14 i wr => ∃ k : Nat, k + gm = 6 ∧ i = .int .i64 k ∧ NexOuts g2 wr ∧ LinesR wr wr.heap.size A3 threeLs ∧ wr.cell? ⟨Bn, 0, none⟩ = some (.int .i64 3) ∧ wr.cell? ⟨Bn, 1, none⟩ = some (.slice A3 3 3) ∧ Below w.heap.size w wr)
        case atStart => exact ⟨0, by omega, rfl, HOT.out, HL.out, n0, n1, HB21.out⟩
        case round =>
          clear HOT HL n0 n1 HB21 hzn
          obtain ⟨k, hkg, rfl, hO, hl, n0, n1, hbel⟩ := hrel
          have HOT := Lib.hid hO
          have HL := Lib.hid hl
          have HBV := Lib.hid hbel
          have hzn := cell_block n0
          simp only at hzn
          clear hO hl hbel
          cases gk with
          | zero =>
            obtain rfl : k = 6 := by omega
            clear hkg HOT
            go_wp2_with fail
            refine (nex_at A3 _ HL.out).mono ?_
            rintro e w40 ⟨v, rfl, hown, hb⟩
            obtain ⟨Ad, cd, rfl, hI⟩ := ownsRow_ints hown
            have HId := Lib.hid hI
            clear hown hI
            have HB40 := Lib.hid (HBV.out.trans (hb.mono HBV.out.size))
            clear HBV
            replace HL := Lib.hid (HL.out.upto hb)
            replace n0 := (hb.cell (p := ⟨Bn, 0, none⟩) hzn).trans n0
            replace n1 := (hb.cell (p := ⟨Bn, 1, none⟩) hzn).trans n1
            replace hzn : Bn < w40.heap.size := Nat.lt_of_lt_of_le hzn hb.size
            clear hb
            go_wp2_with fail
            refine (nex_rev1 A3 _ HL.out).mono ?_
            rintro e w41 ⟨Ae, ce, rfl, _, hb⟩
            have HB41 := Lib.hid (HB40.out.trans (hb.mono HB40.out.size))
            clear HB40
            replace HL := Lib.hid (HL.out.upto hb)
            replace HId := Lib.hid (HId.out.upto hb)
            replace n0 := (hb.cell (p := ⟨Bn, 0, none⟩) hzn).trans n0
            replace n1 := (hb.cell (p := ⟨Bn, 1, none⟩) hzn).trans n1
            replace hzn : Bn < w41.heap.size := Nat.lt_of_lt_of_le hzn hb.size
            clear hb
            simp only [List.length_nil]
            go_upto_region 23 with fail
            have hb : Below w41.heap.size w41 (w41.alloc (.cells #[.int .i64 0, .slice Ae 0 ce] 24)) := (Below.refl _ _).alloc (Nat.le_refl _) _
            generalize w41.alloc (.cells #[.int .i64 0, .slice Ae 0 ce] 24) = w42 at *
            have HB42 := Lib.hid (HB41.out.trans (hb.mono HB41.out.size))
            clear HB41
            replace HL := Lib.hid (HL.out.upto hb)
            replace HId := Lib.hid (HId.out.upto hb)
            replace n0 := (hb.cell (p := ⟨Bn, 0, none⟩) hzn).trans n0
            replace n1 := (hb.cell (p := ⟨Bn, 1, none⟩) hzn).trans n1
            replace hzn : Bn < w42.heap.size := Nat.lt_of_lt_of_le hzn hb.size
            clear hb
            go_wp2_with fail
            refine (nex_rev2 A3 _ HL.out).mono ?_
            rintro e w43 ⟨Af, cf, rfl, _, hb⟩
            have HB43 := Lib.hid (HB42.out.trans (hb.mono HB42.out.size))
            clear HB42
            replace HL := Lib.hid (HL.out.upto hb)
            replace HId := Lib.hid (HId.out.upto hb)
            replace n0 := (hb.cell (p := ⟨Bn, 0, none⟩) hzn).trans n0
            replace n1 := (hb.cell (p := ⟨Bn, 1, none⟩) hzn).trans n1
            replace hzn : Bn < w43.heap.size := Nat.lt_of_lt_of_le hzn hb.size
            clear hb
            simp only [List.length_nil]
            go_upto_region 24 with fail
            have hb : Below w43.heap.size w43 (w43.alloc (.cells #[.int .i64 0, .slice Af 0 cf] 24)) := (Below.refl _ _).alloc (Nat.le_refl _) _
            generalize w43.alloc (.cells #[.int .i64 0, .slice Af 0 cf] 24) = w44 at *
            have HB44 := Lib.hid (HB43.out.trans (hb.mono HB43.out.size))
            clear HB43
            replace HL := Lib.hid (HL.out.upto hb)
            replace HId := Lib.hid (HId.out.upto hb)
            replace n0 := (hb.cell (p := ⟨Bn, 0, none⟩) hzn).trans n0
            replace n1 := (hb.cell (p := ⟨Bn, 1, none⟩) hzn).trans n1
            replace hzn : Bn < w44.heap.size := Nat.lt_of_lt_of_le hzn hb.size
            clear hb
            go_wp2_with fail
            have hI := IntsR.litU w44 3 [0, 0] #[.int .i64 0, .int .i64 0] rfl
            have hb := (Below.refl w44.heap.size w44).alloc (Nat.le_refl _) (.cells #[.int .i64 0, .int .i64 0] 3)
            have HU1 := Lib.hid hI
            clear hI
            have HB45 := Lib.hid (HB44.out.trans (hb.mono HB44.out.size))
            clear HB44
            replace HL := Lib.hid (HL.out.upto hb)
            replace HId := Lib.hid (HId.out.upto hb)
            replace n0 := (hb.cell (p := ⟨Bn, 0, none⟩) hzn).trans n0
            replace n1 := (hb.cell (p := ⟨Bn, 1, none⟩) hzn).trans n1
            replace hzn : Bn < (w44.alloc (.cells #[.int .i64 0, .int .i64 0] 3)).heap.size := Nat.lt_of_lt_of_le hzn hb.size
            clear hb
            refine (nex_uni1 _ _ HU1.out).mono ?_
            rintro e w46 ⟨v, rfl, hown, hb⟩
            obtain ⟨Ag, cg, rfl, hI⟩ := ownsRow_ints hown
            have HIg := Lib.hid hI
            clear hown hI
            have HB46 := Lib.hid (HB45.out.trans (hb.mono HB45.out.size))
            clear HB45
            replace HL := Lib.hid (HL.out.upto hb)
            replace HId := Lib.hid (HId.out.upto hb)
            replace HU1 := Lib.hid (HU1.out.upto hb)
            replace n0 := (hb.cell (p := ⟨Bn, 0, none⟩) hzn).trans n0
            replace n1 := (hb.cell (p := ⟨Bn, 1, none⟩) hzn).trans n1
            replace hzn : Bn < w46.heap.size := Nat.lt_of_lt_of_le hzn hb.size
            clear hb
            go_wp2_with fail
            have hI := IntsR.litU w46 3 [(-1)] #[.int .i64 (-1)] rfl
            have hb := (Below.refl w46.heap.size w46).alloc (Nat.le_refl _) (.cells #[.int .i64 (-1)] 3)
            have HU2 := Lib.hid hI
            clear hI
            have HB47 := Lib.hid (HB46.out.trans (hb.mono HB46.out.size))
            clear HB46
            replace HL := Lib.hid (HL.out.upto hb)
            replace HId := Lib.hid (HId.out.upto hb)
            replace HU1 := Lib.hid (HU1.out.upto hb)
            replace HIg := Lib.hid (HIg.out.upto hb)
            replace n0 := (hb.cell (p := ⟨Bn, 0, none⟩) hzn).trans n0
            replace n1 := (hb.cell (p := ⟨Bn, 1, none⟩) hzn).trans n1
            replace hzn : Bn < (w46.alloc (.cells #[.int .i64 (-1)] 3)).heap.size := Nat.lt_of_lt_of_le hzn hb.size
            clear hb
            refine (nex_uni2 _ _ HU2.out).mono ?_
            rintro e w48 ⟨v, rfl, hown, hb⟩
            obtain ⟨Ah, ch, rfl, hI⟩ := ownsRow_ints hown
            have HIh := Lib.hid hI
            clear hown hI
            have HB48 := Lib.hid (HB47.out.trans (hb.mono HB47.out.size))
            clear HB47
            replace HL := Lib.hid (HL.out.upto hb)
            replace HId := Lib.hid (HId.out.upto hb)
            replace HU1 := Lib.hid (HU1.out.upto hb)
            replace HIg := Lib.hid (HIg.out.upto hb)
            replace HU2 := Lib.hid (HU2.out.upto hb)
            replace n0 := (hb.cell (p := ⟨Bn, 0, none⟩) hzn).trans n0
            replace n1 := (hb.cell (p := ⟨Bn, 1, none⟩) hzn).trans n1
            replace hzn : Bn < w48.heap.size := Nat.lt_of_lt_of_le hzn hb.size
            clear hb
            go_wp2_with fail
            refine (nex_uni3 _).mono ?_
            rintro e w49 ⟨v, rfl, hown, hb⟩
            obtain ⟨Ai, ci, rfl, hI⟩ := ownsRow_ints hown
            have HIi := Lib.hid hI
            clear hown hI
            have HB49 := Lib.hid (HB48.out.trans (hb.mono HB48.out.size))
            clear HB48
            replace HL := Lib.hid (HL.out.upto hb)
            replace HId := Lib.hid (HId.out.upto hb)
            replace HU1 := Lib.hid (HU1.out.upto hb)
            replace HIg := Lib.hid (HIg.out.upto hb)
            replace HU2 := Lib.hid (HU2.out.upto hb)
            replace HIh := Lib.hid (HIh.out.upto hb)
            replace n0 := (hb.cell (p := ⟨Bn, 0, none⟩) hzn).trans n0
            replace n1 := (hb.cell (p := ⟨Bn, 1, none⟩) hzn).trans n1
            replace hzn : Bn < w49.heap.size := Nat.lt_of_lt_of_le hzn hb.size
            clear hb
            simp only [List.length_nil]
            go_wp2_with fail
            go_ret
            exact ⟨rfl, HB49.out⟩
          | succ gm =>
            have hk : k < 6 := by omega
            have HG := Lib.hid hkg
            clear hkg
            have hg2 := HOT.out.1
            obtain ⟨X, xs, cX, y0, y1, hX, hxl⟩ := HOT.out.2 k hk
            have hal := atE_zero xs
            have ki := fun W hl ho => in_any 3 A3 X 3 cX threeLs xs W hl ho (by decide) (by omega)
            have ks := fun W hl ho => strip_any 3 A3 X 3 cX threeLs xs W hl ho (by decide) (by omega)
            have ka := fun W hl ho => at_any 3 A3 X 3 cX threeLs xs 0 W hl ho (by decide) (by omega)
            have ko := fun W hl ho => outs_any 3 A3 X 3 cX threeLs xs W hl ho (by decide) (by omega)
            rw [hal] at ka
            clear hal
            generalize outsE 3 threeLs xs = er at *
            generalize inL 3 threeLs xs = il at *
            generalize stripNb 3 threeLs xs = sb at *
            generalize stripL 3 threeLs xs = sl at *
            generalize stripK 3 threeLs xs = sk at *
            generalize atL 3 threeLs xs 0 = al at *
            have KI := Lib.hid ki
            have KS := Lib.hid ks
            have KA := Lib.hid ka
            have KO := Lib.hid ko
            have HX := Lib.hid hX
            clear ki ks ka ko hX
            have b5 : (er != er) = false := by simp
            go_upto_region 15 with fail
            have hb : Below wr.heap.size wr (wr.alloc (.cells #[.slice X xs.length cX, .int .i64 er] 55)) := (Below.refl _ _).alloc (Nat.le_refl _) _
            have b0 : (wr.alloc (.cells #[.slice X xs.length cX, .int .i64 er] 55)).cell? ⟨wr.heap.size, 0, none⟩ = some (.slice X xs.length cX) := cell_alloc_at _ _ _ _ _ rfl
            have b1 : (wr.alloc (.cells #[.slice X xs.length cX, .int .i64 er] 55)).cell? ⟨wr.heap.size, 1, none⟩ = some (.int .i64 er) := cell_alloc_at _ _ _ _ _ rfl
            have hzx : wr.heap.size < (wr.alloc (.cells #[.slice X xs.length cX, .int .i64 er] 55)).heap.size := by simp
            have HOU := Lib.hid (HOT.out.upto hb)
            clear HOT y0 y1
            generalize hXX : wr.alloc (.cells #[.slice X xs.length cX, .int .i64 er] 55) = w70 at *
            clear hXX
            have HB70 := Lib.hid (HBV.out.trans (hb.mono HBV.out.size))
            clear HBV
            replace HL := Lib.hid (HL.out.upto hb)
            replace HX := Lib.hid (HX.out.upto hb)
            replace n0 := (hb.cell (p := ⟨Bn, 0, none⟩) hzn).trans n0
            replace n1 := (hb.cell (p := ⟨Bn, 1, none⟩) hzn).trans n1
            replace hzn : Bn < w70.heap.size := Nat.lt_of_lt_of_le hzn hb.size
            clear hb
            generalize wr.heap.size = Bx at *
            go_wp2_with fail
            refine (KI.out _ HL.out HX.out).mono ?_
            rintro e w71 ⟨v, rfl, hown, hb⟩
            obtain ⟨Ap, cp, rfl, hI⟩ := ownsRow_ints hown
            have HIp := Lib.hid hI
            clear hown hI
            have HB71 := Lib.hid (HB70.out.trans (hb.mono HB70.out.size))
            clear HB70
            replace HL := Lib.hid (HL.out.upto hb)
            replace HX := Lib.hid (HX.out.upto hb)
            replace HOU := Lib.hid (HOU.out.upto hb)
            replace n0 := (hb.cell (p := ⟨Bn, 0, none⟩) hzn).trans n0
            replace n1 := (hb.cell (p := ⟨Bn, 1, none⟩) hzn).trans n1
            replace b0 := (hb.cell (p := ⟨Bx, 0, none⟩) hzx).trans b0
            replace b1 := (hb.cell (p := ⟨Bx, 1, none⟩) hzx).trans b1
            replace hzn : Bn < w71.heap.size := Nat.lt_of_lt_of_le hzn hb.size
            replace hzx : Bx < w71.heap.size := Nat.lt_of_lt_of_le hzx hb.size
            clear hb
            go_wp2_with fail
            refine (KS.out _ HL.out HX.out).mono ?_
            rintro e w72 ⟨Ar, cr, At, ct, rfl, _, _, hb⟩
            have HB72 := Lib.hid (HB71.out.trans (hb.mono HB71.out.size))
            clear HB71
            replace HL := Lib.hid (HL.out.upto hb)
            replace HX := Lib.hid (HX.out.upto hb)
            replace HOU := Lib.hid (HOU.out.upto hb)
            replace HIp := Lib.hid (HIp.out.upto hb)
            replace n0 := (hb.cell (p := ⟨Bn, 0, none⟩) hzn).trans n0
            replace n1 := (hb.cell (p := ⟨Bn, 1, none⟩) hzn).trans n1
            replace b0 := (hb.cell (p := ⟨Bx, 0, none⟩) hzx).trans b0
            replace b1 := (hb.cell (p := ⟨Bx, 1, none⟩) hzx).trans b1
            replace hzn : Bn < w72.heap.size := Nat.lt_of_lt_of_le hzn hb.size
            replace hzx : Bx < w72.heap.size := Nat.lt_of_lt_of_le hzx hb.size
            clear hb
            go_upto_region 17 with fail
            have hb : Below w72.heap.size w72 (w72.alloc (.cells #[.int .i64 sb, .slice Ar sl.length cr] 24)) := (Below.refl _ _).alloc (Nat.le_refl _) _
            generalize w72.alloc (.cells #[.int .i64 sb, .slice Ar sl.length cr] 24) = w73 at *
            have HB73 := Lib.hid (HB72.out.trans (hb.mono HB72.out.size))
            clear HB72
            replace HL := Lib.hid (HL.out.upto hb)
            replace HX := Lib.hid (HX.out.upto hb)
            replace HOU := Lib.hid (HOU.out.upto hb)
            replace HIp := Lib.hid (HIp.out.upto hb)
            replace n0 := (hb.cell (p := ⟨Bn, 0, none⟩) hzn).trans n0
            replace n1 := (hb.cell (p := ⟨Bn, 1, none⟩) hzn).trans n1
            replace b0 := (hb.cell (p := ⟨Bx, 0, none⟩) hzx).trans b0
            replace b1 := (hb.cell (p := ⟨Bx, 1, none⟩) hzx).trans b1
            replace hzn : Bn < w73.heap.size := Nat.lt_of_lt_of_le hzn hb.size
            replace hzx : Bx < w73.heap.size := Nat.lt_of_lt_of_le hzx hb.size
            clear hb
            go_wp2_with fail
            refine (KA.out _ HL.out HX.out).mono ?_
            rintro e w74 ⟨v, rfl, hown, hb⟩
            obtain ⟨As, cs, rfl, hI⟩ := ownsRow_ints hown
            have HIs := Lib.hid hI
            clear hown hI
            have HB74 := Lib.hid (HB73.out.trans (hb.mono HB73.out.size))
            clear HB73
            replace HL := Lib.hid (HL.out.upto hb)
            replace HX := Lib.hid (HX.out.upto hb)
            replace HOU := Lib.hid (HOU.out.upto hb)
            replace HIp := Lib.hid (HIp.out.upto hb)
            replace n0 := (hb.cell (p := ⟨Bn, 0, none⟩) hzn).trans n0
            replace n1 := (hb.cell (p := ⟨Bn, 1, none⟩) hzn).trans n1
            replace b0 := (hb.cell (p := ⟨Bx, 0, none⟩) hzx).trans b0
            replace b1 := (hb.cell (p := ⟨Bx, 1, none⟩) hzx).trans b1
            replace hzn : Bn < w74.heap.size := Nat.lt_of_lt_of_le hzn hb.size
            replace hzx : Bx < w74.heap.size := Nat.lt_of_lt_of_le hzx hb.size
            clear hb
            go_upto_region 18 with fail
            refine region_calls (w0 := w74) (fun jq => match jq with | 0 => .agg #[.int .i64 3, .slice A3 3 3] | 1 => .pointer (some ⟨Bx, 0, none⟩) | 2 => .slice X xs.length cX | 3 => .int .i64 er | 4 => .pointer (some ⟨Bx, 1, none⟩) | 5 => .int .i64 er | 6 => .bool false | 7 => .bool false | 8 => .int .i64 er | 9 => .pointer (some ⟨Bx, 1, none⟩) | 10 => .int .i64 er | 11 => .bool false | 12 => .bool false | 13 => .bool false | 14 => .int .i64 er | 15 => .pointer (some ⟨Bx, 1, none⟩) | 16 => .int .i64 er | 17 => .bool false | 18 => .bool false | 19 => .bool false | 20 => .int .i64 er | 21 => .pointer (some ⟨Bx, 1, none⟩) | 22 => .int .i64 er | 23 => .bool false | 24 => .bool false | _ => undef) (by kernel_rfl) (by kernel_rfl) ?_ ?_
            · intro i o ho a W hI hdep hrest hgd
              have r5 : a.eval (.tmp 5) = .pointer (some ⟨Bn, 0, none⟩) := hrest 5 (apart_of (by kernel_rfl))
              have r7 : a.eval (.tmp 7) = .pointer (some ⟨Bx, 0, none⟩) := hrest 7 (apart_of (by kernel_rfl))
              have r9 : a.eval (.tmp 9) = .int .i64 er := hrest 9 (apart_of (by kernel_rfl))
              have r12 : a.eval (.tmp 12) = .int .i64 er := hrest 12 (apart_of (by kernel_rfl))
              have r14 : a.eval (.tmp 14) = .int .i64 er := hrest 14 (apart_of (by kernel_rfl))
              have hc : ∀ v, a.eval (.const v) = v := fun _ => rfl
              have hfn : ∀ f, a.eval (.func f) = .func (.func f) #[] #[] := fun _ => rfl
              clear hrest
              rcases i with _ | _ | _ | _ | _ | _ | _ | _ | _ | _ | _ | _ | _ | _ | _ | _ | _ | _ | _ | _ | _ | _ | _ | _ | _ | i
              · injection ho with ho
                subst ho
                clear hdep hgd
                have x0 := (hI.cell (p := ⟨Bn, 0, none⟩) hzn).trans n0
                have x1 := (hI.cell (p := ⟨Bn, 1, none⟩) hzn).trans n1
                refine ⟨fun _ => .inl ?_, fun hw => (by simp [Region.wanted] at hw)⟩
                clear hI
                generalize a.eval = ρ at *
                simp [go_sem, r5, x0, x1]
              · injection ho with ho
                subst ho
                clear hdep hgd
                refine ⟨fun _ => .inl ?_, fun hw => (by simp [Region.wanted] at hw)⟩
                clear hI
                generalize a.eval = ρ at *
                simp [go_sem, r7]
              · injection ho with ho
                subst ho
                have e1 : a.eval (.tmp 170) = .pointer (some ⟨Bx, 0, none⟩) := hdep ⟨1, .data⟩ (by simp) rfl _ _ rfl rfl
                clear hdep hgd
                have x2 := (hI.cell (p := ⟨Bx, 0, none⟩) hzx).trans b0
                refine ⟨fun _ => .inl ?_, fun hw => (by simp [Region.wanted] at hw)⟩
                clear hI
                generalize a.eval = ρ at *
                simp [go_sem, e1, x2]
              · injection ho with ho
                subst ho
                have e0 : a.eval (.tmp 169) = .agg #[.int .i64 3, .slice A3 3 3] := hdep ⟨0, .data⟩ (by simp) rfl _ _ rfl rfl
                have e2 : a.eval (.tmp 171) = .slice X xs.length cX := hdep ⟨2, .data⟩ (by simp) rfl _ _ rfl rfl
                clear hdep hgd
                refine ⟨fun _ => .inr ⟨20, #[.agg #[.int .i64 3, .slice A3 3 3], .slice X xs.length cX], ?_, KO.out W (HL.out.upto hI) (HX.out.upto hI)⟩, fun hw => (by simp [Region.wanted] at hw)⟩
                clear hI
                generalize a.eval = ρ at *
                simp [go_sem, e0, e2, hfn]
              · injection ho with ho
                subst ho
                clear hdep hgd
                refine ⟨fun _ => .inl ?_, fun hw => (by simp [Region.wanted] at hw)⟩
                clear hI
                generalize a.eval = ρ at *
                simp [go_sem, r7]
              · injection ho with ho
                subst ho
                have e4 : a.eval (.tmp 173) = .pointer (some ⟨Bx, 1, none⟩) := hdep ⟨4, .data⟩ (by simp) rfl _ _ rfl rfl
                clear hdep hgd
                have x2 := (hI.cell (p := ⟨Bx, 1, none⟩) hzx).trans b1
                refine ⟨fun _ => .inl ?_, fun hw => (by simp [Region.wanted] at hw)⟩
                clear hI
                generalize a.eval = ρ at *
                simp [go_sem, e4, x2]
              · injection ho with ho
                subst ho
                have e3 : a.eval (.tmp 172) = .int .i64 er := hdep ⟨3, .data⟩ (by simp) rfl _ _ rfl rfl
                have e5 : a.eval (.tmp 174) = .int .i64 er := hdep ⟨5, .data⟩ (by simp) rfl _ _ rfl rfl
                clear hdep hgd
                refine ⟨fun _ => .inl ?_, fun hw => (by simp [Region.wanted] at hw)⟩
                clear hI
                generalize a.eval = ρ at *
                simp [go_sem, e3, e5]
              · injection ho with ho
                subst ho
                have e6 : a.eval (.tmp 175) = .bool false := hdep ⟨6, .data⟩ (by simp) rfl _ _ rfl rfl
                clear hdep hgd
                refine ⟨fun _ => .inl ?_, fun hw => (by simp [Region.wanted] at hw)⟩
                clear hI
                generalize a.eval = ρ at *
                simp [go_sem, e6]
              · injection ho with ho
                subst ho
                have h8 : a.tmps.getD 176 undef = .bool false := hdep ⟨7, .guard⟩ (by simp) rfl _ _ rfl rfl
                have hwd := hgd 7 false rfl _ _ rfl rfl false h8
                clear hdep hgd
                refine ⟨fun _ => .inl ?_, fun hw => (by rw [hwd] at hw; cases hw)⟩
                clear h8 hwd
                clear hI
                generalize a.eval = ρ at *
                simp [go_sem, r9]
              · injection ho with ho
                subst ho
                have h8 : a.tmps.getD 176 undef = .bool false := hdep ⟨7, .guard⟩ (by simp) rfl _ _ rfl rfl
                have hwd := hgd 7 false rfl _ _ rfl rfl false h8
                clear hdep hgd
                refine ⟨fun _ => .inl ?_, fun hw => (by rw [hwd] at hw; cases hw)⟩
                clear h8 hwd
                clear hI
                generalize a.eval = ρ at *
                simp [go_sem, r7]
              · injection ho with ho
                subst ho
                have e9 : a.eval (.tmp 178) = .pointer (some ⟨Bx, 1, none⟩) := hdep ⟨9, .data⟩ (by simp) rfl _ _ rfl rfl
                have h8 : a.tmps.getD 176 undef = .bool false := hdep ⟨7, .guard⟩ (by simp) rfl _ _ rfl rfl
                have hwd := hgd 7 false rfl _ _ rfl rfl false h8
                clear hdep hgd
                have x2 := (hI.cell (p := ⟨Bx, 1, none⟩) hzx).trans b1
                refine ⟨fun _ => .inl ?_, fun hw => (by rw [hwd] at hw; cases hw)⟩
                clear h8 hwd
                clear hI
                generalize a.eval = ρ at *
                simp [go_sem, e9, x2]
              · injection ho with ho
                subst ho
                have e8 : a.eval (.tmp 177) = .int .i64 er := hdep ⟨8, .data⟩ (by simp) rfl _ _ rfl rfl
                have e10 : a.eval (.tmp 179) = .int .i64 er := hdep ⟨10, .data⟩ (by simp) rfl _ _ rfl rfl
                have h8 : a.tmps.getD 176 undef = .bool false := hdep ⟨7, .guard⟩ (by simp) rfl _ _ rfl rfl
                have hwd := hgd 7 false rfl _ _ rfl rfl false h8
                clear hdep hgd
                refine ⟨fun _ => .inl ?_, fun hw => (by rw [hwd] at hw; cases hw)⟩
                clear h8 hwd
                clear hI
                generalize a.eval = ρ at *
                simp [go_sem, e8, e10]
              · injection ho with ho
                subst ho
                have e7 : a.eval (.tmp 176) = .bool false := hdep ⟨7, .data⟩ (by simp) rfl _ _ rfl rfl
                have e11 : a.eval (.tmp 180) = .bool false := hdep ⟨11, .data⟩ (by simp) rfl _ _ rfl rfl
                clear hdep hgd
                refine ⟨fun _ => .inl ?_, fun hw => (by simp [Region.wanted] at hw)⟩
                clear hI
                generalize a.eval = ρ at *
                simp [go_sem, e7, e11, hc]
              · injection ho with ho
                subst ho
                have e12 : a.eval (.tmp 181) = .bool false := hdep ⟨12, .data⟩ (by simp) rfl _ _ rfl rfl
                clear hdep hgd
                refine ⟨fun _ => .inl ?_, fun hw => (by simp [Region.wanted] at hw)⟩
                clear hI
                generalize a.eval = ρ at *
                simp [go_sem, e12]
              · injection ho with ho
                subst ho
                have h8 : a.tmps.getD 182 undef = .bool false := hdep ⟨13, .guard⟩ (by simp) rfl _ _ rfl rfl
                have hwd := hgd 13 false rfl _ _ rfl rfl false h8
                clear hdep hgd
                refine ⟨fun _ => .inl ?_, fun hw => (by rw [hwd] at hw; cases hw)⟩
                clear h8 hwd
                clear hI
                generalize a.eval = ρ at *
                simp [go_sem, r12]
              · injection ho with ho
                subst ho
                have h8 : a.tmps.getD 182 undef = .bool false := hdep ⟨13, .guard⟩ (by simp) rfl _ _ rfl rfl
                have hwd := hgd 13 false rfl _ _ rfl rfl false h8
                clear hdep hgd
                refine ⟨fun _ => .inl ?_, fun hw => (by rw [hwd] at hw; cases hw)⟩
                clear h8 hwd
                clear hI
                generalize a.eval = ρ at *
                simp [go_sem, r7]
              · injection ho with ho
                subst ho
                have e15 : a.eval (.tmp 184) = .pointer (some ⟨Bx, 1, none⟩) := hdep ⟨15, .data⟩ (by simp) rfl _ _ rfl rfl
                have h8 : a.tmps.getD 182 undef = .bool false := hdep ⟨13, .guard⟩ (by simp) rfl _ _ rfl rfl
                have hwd := hgd 13 false rfl _ _ rfl rfl false h8
                clear hdep hgd
                have x2 := (hI.cell (p := ⟨Bx, 1, none⟩) hzx).trans b1
                refine ⟨fun _ => .inl ?_, fun hw => (by rw [hwd] at hw; cases hw)⟩
                clear h8 hwd
                clear hI
                generalize a.eval = ρ at *
                simp [go_sem, e15, x2]
              · injection ho with ho
                subst ho
                have e14 : a.eval (.tmp 183) = .int .i64 er := hdep ⟨14, .data⟩ (by simp) rfl _ _ rfl rfl
                have e16 : a.eval (.tmp 185) = .int .i64 er := hdep ⟨16, .data⟩ (by simp) rfl _ _ rfl rfl
                have h8 : a.tmps.getD 182 undef = .bool false := hdep ⟨13, .guard⟩ (by simp) rfl _ _ rfl rfl
                have hwd := hgd 13 false rfl _ _ rfl rfl false h8
                clear hdep hgd
                refine ⟨fun _ => .inl ?_, fun hw => (by rw [hwd] at hw; cases hw)⟩
                clear h8 hwd
                clear hI
                generalize a.eval = ρ at *
                simp [go_sem, e14, e16]
              · injection ho with ho
                subst ho
                have e13 : a.eval (.tmp 182) = .bool false := hdep ⟨13, .data⟩ (by simp) rfl _ _ rfl rfl
                have e17 : a.eval (.tmp 186) = .bool false := hdep ⟨17, .data⟩ (by simp) rfl _ _ rfl rfl
                clear hdep hgd
                refine ⟨fun _ => .inl ?_, fun hw => (by simp [Region.wanted] at hw)⟩
                clear hI
                generalize a.eval = ρ at *
                simp [go_sem, e13, e17, hc]
              · injection ho with ho
                subst ho
                have e18 : a.eval (.tmp 187) = .bool false := hdep ⟨18, .data⟩ (by simp) rfl _ _ rfl rfl
                clear hdep hgd
                refine ⟨fun _ => .inl ?_, fun hw => (by simp [Region.wanted] at hw)⟩
                clear hI
                generalize a.eval = ρ at *
                simp [go_sem, e18]
              · injection ho with ho
                subst ho
                have h8 : a.tmps.getD 188 undef = .bool false := hdep ⟨19, .guard⟩ (by simp) rfl _ _ rfl rfl
                have hwd := hgd 19 false rfl _ _ rfl rfl false h8
                clear hdep hgd
                refine ⟨fun _ => .inl ?_, fun hw => (by rw [hwd] at hw; cases hw)⟩
                clear h8 hwd
                clear hI
                generalize a.eval = ρ at *
                simp [go_sem, r14]
              · injection ho with ho
                subst ho
                have h8 : a.tmps.getD 188 undef = .bool false := hdep ⟨19, .guard⟩ (by simp) rfl _ _ rfl rfl
                have hwd := hgd 19 false rfl _ _ rfl rfl false h8
                clear hdep hgd
                refine ⟨fun _ => .inl ?_, fun hw => (by rw [hwd] at hw; cases hw)⟩
                clear h8 hwd
                clear hI
                generalize a.eval = ρ at *
                simp [go_sem, r7]
              · injection ho with ho
                subst ho
                have e21 : a.eval (.tmp 190) = .pointer (some ⟨Bx, 1, none⟩) := hdep ⟨21, .data⟩ (by simp) rfl _ _ rfl rfl
                have h8 : a.tmps.getD 188 undef = .bool false := hdep ⟨19, .guard⟩ (by simp) rfl _ _ rfl rfl
                have hwd := hgd 19 false rfl _ _ rfl rfl false h8
                clear hdep hgd
                have x2 := (hI.cell (p := ⟨Bx, 1, none⟩) hzx).trans b1
                refine ⟨fun _ => .inl ?_, fun hw => (by rw [hwd] at hw; cases hw)⟩
                clear h8 hwd
                clear hI
                generalize a.eval = ρ at *
                simp [go_sem, e21, x2]
              · injection ho with ho
                subst ho
                have e20 : a.eval (.tmp 189) = .int .i64 er := hdep ⟨20, .data⟩ (by simp) rfl _ _ rfl rfl
                have e22 : a.eval (.tmp 191) = .int .i64 er := hdep ⟨22, .data⟩ (by simp) rfl _ _ rfl rfl
                have h8 : a.tmps.getD 188 undef = .bool false := hdep ⟨19, .guard⟩ (by simp) rfl _ _ rfl rfl
                have hwd := hgd 19 false rfl _ _ rfl rfl false h8
                clear hdep hgd
                refine ⟨fun _ => .inl ?_, fun hw => (by rw [hwd] at hw; cases hw)⟩
                clear h8 hwd
                clear hI
                generalize a.eval = ρ at *
                simp [go_sem, e20, e22]
              · injection ho with ho
                subst ho
                have e19 : a.eval (.tmp 188) = .bool false := hdep ⟨19, .data⟩ (by simp) rfl _ _ rfl rfl
                have e23 : a.eval (.tmp 192) = .bool false := hdep ⟨23, .data⟩ (by simp) rfl _ _ rfl rfl
                clear hdep hgd
                refine ⟨fun _ => .inl ?_, fun hw => (by simp [Region.wanted] at hw)⟩
                clear hI
                generalize a.eval = ρ at *
                simp [go_sem, e19, e23, hc]
              · simp at ho
            · intro w75 hb
              simp only [putAll, Act.put, List.setIfInBounds_toArray, List.set_cons_zero, List.set_cons_succ, Nat.reduceAdd]
              have HB75 := Lib.hid (HB74.out.trans (hb.mono HB74.out.size))
              clear HB74
              replace HL := Lib.hid (HL.out.upto hb)
              replace HX := Lib.hid (HX.out.upto hb)
              replace HOU := Lib.hid (HOU.out.upto hb)
              replace HIp := Lib.hid (HIp.out.upto hb)
              replace HIs := Lib.hid (HIs.out.upto hb)
              replace n0 := (hb.cell (p := ⟨Bn, 0, none⟩) hzn).trans n0
              replace n1 := (hb.cell (p := ⟨Bn, 1, none⟩) hzn).trans n1
              replace b0 := (hb.cell (p := ⟨Bx, 0, none⟩) hzx).trans b0
              replace b1 := (hb.cell (p := ⟨Bx, 1, none⟩) hzx).trans b1
              replace hzn : Bn < w75.heap.size := Nat.lt_of_lt_of_le hzn hb.size
              replace hzx : Bx < w75.heap.size := Nat.lt_of_lt_of_le hzx hb.size
              clear hb
              go_wp2_with fail
              go_roundg gm
              case measure => omega
              case rel => exact ⟨k + 1, by have := HG.out; omega, by go_num, HOU.out, HL.out, n0, n1, HB75.out⟩
      | succ gm =>
        have hk : k < 16 := by omega
        have HG := Lib.hid hkg
        clear hkg
        have hgg := HR.out.1
        obtain ⟨nb, A, m, c, er, x0, x1, x2, hC⟩ := HR.out.2 k hk
        have b5 : (er != er) = false := by simp
        go_upto_region 8 with fail
        have hb : Below wr.heap.size wr (wr.alloc (.cells #[.int .i64 nb, .slice A m c, .int .i64 er] 52)) := (Below.refl _ _).alloc (Nat.le_refl _) _
        have b0 : (wr.alloc (.cells #[.int .i64 nb, .slice A m c, .int .i64 er] 52)).cell? ⟨wr.heap.size, 0, none⟩ = some (.int .i64 nb) := cell_alloc_at _ _ _ _ _ rfl
        have b1 : (wr.alloc (.cells #[.int .i64 nb, .slice A m c, .int .i64 er] 52)).cell? ⟨wr.heap.size, 1, none⟩ = some (.slice A m c) := cell_alloc_at _ _ _ _ _ rfl
        have b2 : (wr.alloc (.cells #[.int .i64 nb, .slice A m c, .int .i64 er] 52)).cell? ⟨wr.heap.size, 2, none⟩ = some (.int .i64 er) := cell_alloc_at _ _ _ _ _ rfl
        have hzx : wr.heap.size < (wr.alloc (.cells #[.int .i64 nb, .slice A m c, .int .i64 er] 52)).heap.size := by simp
        have HC := Lib.hid (hC.upto hb)
        have HR1 := Lib.hid (HR.out.upto hb)
        have HB1 := Lib.hid (HBW.out.trans (hb.mono HBW.out.size))
        clear hC HR HBW hb x0 x1 x2
        generalize hXX : wr.alloc (.cells #[.int .i64 nb, .slice A m c, .int .i64 er] 52) = wB at *
        clear hXX
        generalize wr.heap.size = Bx at *
        refine region_calls (w0 := wB) (fun jq => match jq with | 0 => .pointer (some ⟨Bx, 0, none⟩) | 1 => .agg #[.int .i64 nb, .slice A m c] | 2 => .int .i64 er | 3 => .pointer (some ⟨Bx, 2, none⟩) | 4 => .int .i64 er | 5 => .bool false | _ => undef) (by kernel_rfl) (by kernel_rfl) ?_ ?_
        · intro i o ho a W hI hdep hrest hgd
          have r4 : a.eval (.tmp 4) = .pointer (some ⟨Bx, 0, none⟩) := hrest 4 (apart_of (by kernel_rfl))
          have hc : ∀ v, a.eval (.const v) = v := fun _ => rfl
          have hfn : ∀ f, a.eval (.func f) = .func (.func f) #[] #[] := fun _ => rfl
          clear hrest
          rcases i with _ | _ | _ | _ | _ | _ | i
          · injection ho with ho
            subst ho
            clear hdep hgd
            refine ⟨fun _ => .inl ?_, fun hw => (by simp [Region.wanted] at hw)⟩
            clear hI
            generalize a.eval = ρ at *
            simp [go_sem, r4]
          · injection ho with ho
            subst ho
            have e0 : a.eval (.tmp 122) = .pointer (some ⟨Bx, 0, none⟩) := hdep ⟨0, .data⟩ (by simp) rfl _ _ rfl rfl
            clear hdep hgd
            have x0 := (hI.cell (p := ⟨Bx, 0, none⟩) hzx).trans b0
            have x1 := (hI.cell (p := ⟨Bx, 1, none⟩) hzx).trans b1
            refine ⟨fun _ => .inl ?_, fun hw => (by simp [Region.wanted] at hw)⟩
            clear hI
            generalize a.eval = ρ at *
            simp [go_sem, e0, x0, x1]
          · injection ho with ho
            subst ho
            have e1 : a.eval (.tmp 123) = .agg #[.int .i64 nb, .slice A m c] := hdep ⟨1, .data⟩ (by simp) rfl _ _ rfl rfl
            clear hdep hgd
            refine ⟨fun _ => .inr ⟨18, #[.agg #[.int .i64 nb, .slice A m c]], ?_, HC.out W hI⟩, fun hw => (by simp [Region.wanted] at hw)⟩
            clear hI
            generalize a.eval = ρ at *
            simp [go_sem, e1, hfn]
          · injection ho with ho
            subst ho
            clear hdep hgd
            refine ⟨fun _ => .inl ?_, fun hw => (by simp [Region.wanted] at hw)⟩
            clear hI
            generalize a.eval = ρ at *
            simp [go_sem, r4]
          · injection ho with ho
            subst ho
            have e3 : a.eval (.tmp 125) = .pointer (some ⟨Bx, 2, none⟩) := hdep ⟨3, .data⟩ (by simp) rfl _ _ rfl rfl
            clear hdep hgd
            have x2 := (hI.cell (p := ⟨Bx, 2, none⟩) hzx).trans b2
            refine ⟨fun _ => .inl ?_, fun hw => (by simp [Region.wanted] at hw)⟩
            clear hI
            generalize a.eval = ρ at *
            simp [go_sem, e3, x2]
          · injection ho with ho
            subst ho
            have e2 : a.eval (.tmp 124) = .int .i64 er := hdep ⟨2, .data⟩ (by simp) rfl _ _ rfl rfl
            have e4 : a.eval (.tmp 126) = .int .i64 er := hdep ⟨4, .data⟩ (by simp) rfl _ _ rfl rfl
            clear hdep hgd
            refine ⟨fun _ => .inl ?_, fun hw => (by simp [Region.wanted] at hw)⟩
            clear hI
            generalize a.eval = ρ at *
            simp [go_sem, e2, e4]
          · simp at ho
        · intro wD hb
          simp only [putAll, Act.put, List.setIfInBounds_toArray, List.set_cons_zero, List.set_cons_succ, Nat.reduceAdd]
          have HR2 := Lib.hid (HR1.out.upto hb)
          have HB2 := Lib.hid (HB1.out.trans (hb.mono HB1.out.size))
          clear hb HR1 HB1 b0 b1 b2 hzx
          go_wp2_with fail
          go_roundg gm
          case measure => omega
          case rel => exact ⟨k + 1, by have := HG.out; omega, by go_num, HR2.out, HB2.out⟩
end Go.Proofs.Ytcacaiakkfgdpaa
