/- plans: the comparison with the reference. -/
import Derived.Test.YtlblpmadehikgaaE6
namespace Go.Proofs.Ytlblpmadehikgaa
open Go.RowKit Go.Shelf
set_option linter.unusedVariables false


theorem plan_e {l : List Int} {ah h E : Int} (hE : wrE l ah h = E) (hz : ¬ E = 0) {v : Value} {w : World} (hs : SrcI w v l) : Calls Try.prog 17 #[v, .int .i64 ah, .int .i64 h] w fun e w' =>
    ∃ v', e = .returned (.tuple #[v', .int .i64 E]) ∧ OwnC w' w.heap.size 28 v' [] ∧ Below w.heap.size w w' := by
  have := plan_any v l ah h w hs
  rw [plV, hE, if_neg hz] at this; exact this
theorem count_e {l : List Int} {ah h E : Int} (hE : wrE l ah h = E) (hz : ¬ E = 0) {v : Value} {w : World} (hs : SrcI w v l) : Calls Try.prog 18 #[v, .int .i64 ah, .int .i64 h] w fun e w' =>
    e = .returned (.tuple #[.int .i64 0, .int .i64 E]) ∧ Below w.heap.size w w' := by
  have := count_any v l ah h w hs
  rw [plV, hE, if_neg hz] at this; exact this
theorem rwrong_at {l : List Int} {ah h E : Int} (hE : wrE l ah h = E) {v : Value} {w : World} (hs : SrcI w v l) : Calls Try.prog 42 #[v, .int .i64 ah, .int .i64 h] w fun e w' => e = .returned (.int .i64 E) ∧ Below w.heap.size w w' := by
  have := rwrong_any v l ah h w hs
  rw [hE] at this; exact this

set_option maxRecDepth 100000 in
set_option maxHeartbeats 8000000 in
theorem plans_any (v : Value) (l : List Int) (ah h : Int) (w : World) (hs : SrcI w v l) (hl : l.length ≤ 100000) : Calls Try.prog 23 #[v, .int .i64 ah, .int .i64 h] w fun e w' => e = .returned (.bool true) ∧ Below w.heap.size w w' := by
  obtain ⟨E0, hE0⟩ : ∃ E, wrE l ah h = E := ⟨_, rfl⟩
  have HS := Hd.mk hs
  have HEE := Hd.mk hE0
  have hc := wr_cases l ah h
  rw [hE0] at hc
  clear hs hE0
  rcases hc with rfl | rfl | rfl
  · go_enter Try.func23, Try.ntmps23
    go_wp2_with fail
    refine (clone_app _ l _ HS.out (by omega)).mono ?_
    rintro e w1 ⟨v7, rfl, hO, hB⟩
    have FO := Hd.mk (OwnE.src hO)
    clear hO
    have HB1 := Hd.mk hB
    have Ft_1 := Hd.mk (HS.out.below hB)
    clear HS
    clear hB
    go_wp2_with fail
    refine (next_any _ l ah h _ FO.out).mono ?_
    rintro e w2 ⟨v9, rfl, hO, hB⟩
    have FNin2 := Hd.mk (hO.src)
    have HB3 := Hd.mk (ch4 HB1.out hB)
    have Ft_3 := Hd.mk (Ft_1.out.below hB)
    have Fo_3 := Hd.mk (FO.out.below hB)
    clear HB1 Ft_1 FO
    clear hB hO
    have HNE : Hd (nxE ah h l = 0 ∨ nxE ah h l = 6) := ⟨by rw [nxE, if_pos HEE.out]; split <;> simp⟩
    have HRN := Hd.mk (fun (v : Value) (w : World) (hs : SrcI w v l) => rnext_any v l ah h w hs HEE.out)
    generalize (nxW ah h l).1 = x at *
    generalize (nxW ah h l).2 = m at *
    generalize nxI ah h l = I at *
    generalize nxE ah h l = E at *
    obtain ⟨X, hX⟩ : ∃ X, winsV ah h l = X := ⟨_, rfl⟩
    have HX := Hd.mk hX
    have hXl : X.length ≤ 4096 := by rw [← hX, winsV]; exact Nat.le_trans (winsL_len _ _ _ _) (by rw [← (sort_perm l).length_eq]; exact (wr_zero HEE.out).1)
    clear hX
    go_wp2_with fail
    obtain ⟨A4, hW⟩ : ∃ W, (w2.alloc (.cells #[.int .i64 x, .int .i64 m] 28)) = W := ⟨_, rfl⟩
    have hX : Below w2.heap.size w2 A4 := by rw [← hW]; exact bl_alloc (Below.refl _ _)
    have hF : BoxF A4 w2.heap.size (.cells #[.int .i64 x, .int .i64 m] 28 (0, 0)) := by rw [← hW]; exact World.alloc_heap_new _ _
    have HZA4 : Hd (A4.heap.size = w2.heap.size + 1) := ⟨by rw [← hW]; simp⟩
    rw [hW]
    clear hW
    have HB5 := Hd.mk (ch4 HB3.out hX)
    have Ft_5 := Hd.mk (Ft_3.out.below hX)
    have Fo_5 := Hd.mk (Fo_3.out.below hX)
    have Fin_5 := Hd.mk (FNin2.out.below hX)
    clear HB3 Ft_3 Fo_3 FNin2
    clear hX
    have FB5 := Hd.mk hF
    clear hF
    refine (plan_at HEE.out HX.out Fo_5.out).mono ?_
    rintro e w6 ⟨v11, rfl, hO, hB⟩
    have FNx6 := Hd.mk (hO.src)
    have HB7 := Hd.mk (ch4 HB5.out hB)
    have Ft_7 := Hd.mk (Ft_5.out.below hB)
    have Fo_7 := Hd.mk (Fo_5.out.below hB)
    have Fin_7 := Hd.mk (Fin_5.out.below hB)
    have Fb8_7 := Hd.mk (FB5.out.below hB)
    clear HB5 Ft_5 Fo_5 Fin_5 FB5
    clear hB hO
    go_wp2_with fail
    refine (count_at (n := X.length) HEE.out HX.out rfl Fo_7.out).mono ?_
    rintro e w8 ⟨rfl, hB⟩
    have HB9 := Hd.mk (ch4 HB7.out hB)
    have Ft_9 := Hd.mk (Ft_7.out.below hB)
    have Fo_9 := Hd.mk (Fo_7.out.below hB)
    have Fin_9 := Hd.mk (Fin_7.out.below hB)
    have Fb8_9 := Hd.mk (Fb8_7.out.below hB)
    have Fx_9 := Hd.mk (FNx6.out.below hB)
    clear HB7 Ft_7 Fo_7 Fin_7 Fb8_7 FNx6
    clear hB
    go_wp2_with fail
    refine (equal_at (b := true) (decide_eq_true rfl) Fo_9.out Ft_9.out).mono ?_
    rintro e w10 ⟨rfl, hB⟩
    have HB11 := Hd.mk (ch4 HB9.out hB)
    have Ft_11 := Hd.mk (Ft_9.out.below hB)
    have Fo_11 := Hd.mk (Fo_9.out.below hB)
    have Fin_11 := Hd.mk (Fin_9.out.below hB)
    have Fb8_11 := Hd.mk (Fb8_9.out.below hB)
    have Fx_11 := Hd.mk (Fx_9.out.below hB)
    clear HB9 Ft_9 Fo_9 Fin_9 Fb8_9 Fx_9
    clear hB
    go_wp2_with fail
    clear Fo_11
    refine (rwrong_at HEE.out Ft_11.out).mono ?_
    rintro e w12 ⟨rfl, hB⟩
    have HB13 := Hd.mk (ch4 HB11.out hB)
    have Ft_13 := Hd.mk (Ft_11.out.below hB)
    have Fin_13 := Hd.mk (Fin_11.out.below hB)
    have Fb8_13 := Hd.mk (Fb8_11.out.below hB)
    have Fx_13 := Hd.mk (Fx_11.out.below hB)
    clear HB11 Ft_11 Fin_11 Fb8_11 Fx_11
    clear hB
    go_wp2_with fail
    refine (HRN.out _ _ Ft_13.out).mono ?_
    rintro e w14 ⟨v17, rfl, hO, hB⟩
    have FNat14 := Hd.mk (hO.src)
    have HB15 := Hd.mk (ch4 HB13.out hB)
    have Ft_15 := Hd.mk (Ft_13.out.below hB)
    have Fin_15 := Hd.mk (Fin_13.out.below hB)
    have Fb8_15 := Hd.mk (Fb8_13.out.below hB)
    have Fx_15 := Hd.mk (Fx_13.out.below hB)
    clear HB13 Ft_13 Fin_13 Fb8_13 Fx_13
    clear hB hO
    have hee : (E != E) = false := by simp
    have heq : ∀ W, (binOp .neq 61 (.agg #[.int .i64 x, .int .i64 m]) (.agg #[.int .i64 x, .int .i64 m])).run Try.prog W = .ok (.bool false) W := fun W => by rw [nev_w61]; simp
    have gd : Try.prog.eqGuardType Try.prog.depth 61 = false := by kernel_rfl
    have c0 := cells_cell (BoxF.below Fb8_15.out (bl_alloc (Below.refl _ _) : Below w14.heap.size w14 (w14.alloc (.cells #[.int .i64 x, .int .i64 m] 61)))) 0
    have c1 := cells_cell (BoxF.below Fb8_15.out (bl_alloc (Below.refl _ _) : Below w14.heap.size w14 (w14.alloc (.cells #[.int .i64 x, .int .i64 m] 61)))) 1
    go_wp2_with fail
    clear c0 c1 heq
    obtain ⟨A16, hW⟩ : ∃ W, (w14.alloc (.cells #[.int .i64 x, .int .i64 m] 61)) = W := ⟨_, rfl⟩
    have hX : Below w14.heap.size w14 A16 := by rw [← hW]; exact bl_alloc (Below.refl _ _)
    have hF : BoxF A16 w14.heap.size (.cells #[.int .i64 x, .int .i64 m] 61 (0, 0)) := by rw [← hW]; exact World.alloc_heap_new _ _
    have HZA16 : Hd (A16.heap.size = w14.heap.size + 1) := ⟨by rw [← hW]; simp⟩
    rw [hW]
    clear hW
    have HB17 := Hd.mk (ch4 HB15.out hX)
    have Ft_17 := Hd.mk (Ft_15.out.below hX)
    have Fin_17 := Hd.mk (Fin_15.out.below hX)
    have Fb8_17 := Hd.mk (Fb8_15.out.below hX)
    have Fx_17 := Hd.mk (Fx_15.out.below hX)
    have Fat_17 := Hd.mk (FNat14.out.below hX)
    clear HB15 Ft_15 Fin_15 Fb8_15 Fx_15 FNat14
    clear hX
    have FB17 := Hd.mk hF
    clear hF
    refine (equal_at (b := true) (decide_eq_true rfl) Fin_17.out Fat_17.out).mono ?_
    rintro e w18 ⟨rfl, hB⟩
    have HB19 := Hd.mk (ch4 HB17.out hB)
    have Ft_19 := Hd.mk (Ft_17.out.below hB)
    have Fin_19 := Hd.mk (Fin_17.out.below hB)
    have Fb8_19 := Hd.mk (Fb8_17.out.below hB)
    have Fx_19 := Hd.mk (Fx_17.out.below hB)
    have Fat_19 := Hd.mk (Fat_17.out.below hB)
    have Fb16_19 := Hd.mk (FB17.out.below hB)
    clear HB17 Ft_17 Fin_17 Fb8_17 Fx_17 Fat_17 FB17
    clear hB
    go_wp2_with fail
    clear Fin_19 Fat_19 Fb8_19 Fb16_19
    refine (rplan_any _ l ah h _ Ft_19.out HEE.out).mono ?_
    rw [HX.out]
    rintro e wr1 ⟨v19, rfl, hO, hB⟩
    have FY := Hd.mk hO.src
    clear hO
    have HB20 := Hd.mk (ch4 HB19.out hB)
    have Ft_20 := Hd.mk (Ft_19.out.below hB)
    have Fx_20 := Hd.mk (Fx_19.out.below hB)
    clear HB19 Ft_19 Fx_19
    clear hB
    obtain ⟨a2, c2, rfl⟩ := Fx_20.out.shape
    obtain ⟨a3, c3, rfl⟩ := FY.out.shape
    have hnn : ((X.length : Int) != (X.length : Int)) = false := by simp
    go_wp2_with fail
    go_loopw [128] (fun i W => ∃ k : Nat, k ≤ X.length ∧ i = .int .i64 k ∧ Below wr1.heap.size wr1 W) (fun i _ => X.length - (intOf i).toNat)
    case atStart => exact ⟨0, by omega, rfl, Below.refl _ _⟩
    case round =>
      obtain ⟨k, hk, rfl, hB⟩ := hrel
      by_cases hlt : k < X.length
      · obtain ⟨bx, ox, rfl, hbx, e0, e1⟩ := SrcC.at (Fx_20.out.below hB) k hlt
        obtain ⟨by_, oy, rfl, hby, f0, f1⟩ := SrcC.at (FY.out.below hB) k hlt
        obtain ⟨x, hx⟩ : ∃ x, X[k].1 = x := ⟨_, rfl⟩
        obtain ⟨m, hm⟩ : ∃ x, X[k].2 = x := ⟨_, rfl⟩
        rw [hx] at e0 f0
        rw [hm] at e1 f1
        have heq : ∀ W, (binOp .neq 61 (.agg #[.int .i64 x, .int .i64 m]) (.agg #[.int .i64 x, .int .i64 m])).run Try.prog W = .ok (.bool false) W := fun W => by rw [nev_w61]; simp
        have k0 : (0 : Int) ≤ (k : Int) := by omega
        have k1 : (k : Int) < (X.length : Int) := by omega
        have HLT := Hd.mk hlt
        have HBR := Hd.mk hB
        clear hx hm hbx hby hB hlt
        go_upto_region 19 with fail
        have hS0 : wr.cell? ⟨bx, ox + k * 2, none⟩ = some (.int .i64 x) ∧ wr.cell? ⟨bx, ox + k * 2 + 1, none⟩ = some (.int .i64 m) ∧ wr.cell? ⟨by_, oy + k * 2, none⟩ = some (.int .i64 x) ∧ wr.cell? ⟨by_, oy + k * 2 + 1, none⟩ = some (.int .i64 m) ∧ Below wr.heap.size wr wr := ⟨e0, e1, f0, f1, Below.refl _ _⟩
        refine wp_region_held_drew (S := fun W => W.cell? ⟨bx, ox + k * 2, none⟩ = some (.int .i64 x) ∧ W.cell? ⟨bx, ox + k * 2 + 1, none⟩ = some (.int .i64 m) ∧ W.cell? ⟨by_, oy + k * 2, none⟩ = some (.int .i64 x) ∧ W.cell? ⟨by_, oy + k * 2 + 1, none⟩ = some (.int .i64 m) ∧ Below wr.heap.size wr W) (by kernel_rfl) (s5_keep hS0 (bl_drew (Below.refl _ _))) (fun hS_ => ?_)
        try dsimp only at hS_
        refine takeW 0 ?_ rfl (by kernel_rfl) (by kernel_rfl) (by kernel_rfl) (fun _ _ _ h => h) (by rfl) ?_ hS_ ?_
        rotate_left
        · intro w hSw
          try dsimp only at hSw
          go_simp
          with_reducible rfl
        try simp only [Act.put, List.setIfInBounds_toArray, List.set_cons_zero, List.set_cons_succ]
        refine takeW 1 ?_ rfl (by kernel_rfl) (by kernel_rfl) (by kernel_rfl) (fun _ _ _ h => h) (by rfl) ?_ hS_ ?_
        rotate_left
        · intro w hSw
          try dsimp only at hSw
          go_simp
          with_reducible rfl
        try simp only [Act.put, List.setIfInBounds_toArray, List.set_cons_zero, List.set_cons_succ]
        refine takeW 2 ?_ rfl (by kernel_rfl) (by kernel_rfl) (by kernel_rfl) (fun _ _ _ h => h) (by rfl) ?_ hS_ ?_
        rotate_left
        · intro w hSw
          try dsimp only at hSw
          go_simp
          with_reducible rfl
        try simp only [Act.put, List.setIfInBounds_toArray, List.set_cons_zero, List.set_cons_succ]
        refine takeW 3 ?_ rfl (by kernel_rfl) (by kernel_rfl) (by kernel_rfl) (fun _ _ _ h => h) (by rfl) ?_ hS_ ?_
        rotate_left
        · intro w hSw
          try dsimp only at hSw
          go_simp
          with_reducible rfl
        try simp only [Act.put, List.setIfInBounds_toArray, List.set_cons_zero, List.set_cons_succ]
        refine takeW 4 ?_ rfl (by kernel_rfl) (by kernel_rfl) (by kernel_rfl) (fun _ _ _ h => h) (by rfl) ?_ hS_ ?_
        rotate_left
        · intro w hSw
          try dsimp only at hSw
          go_simp
          with_reducible rfl
        try simp only [Act.put, List.setIfInBounds_toArray, List.set_cons_zero, List.set_cons_succ]
        refine takeW 5 ?_ rfl (by kernel_rfl) (by kernel_rfl) (by kernel_rfl) (fun _ _ _ h => h) (by rfl) ?_ hS_ ?_
        rotate_left
        · intro w hSw
          try dsimp only at hSw
          go_simp
          with_reducible rfl
        try simp only [Act.put, List.setIfInBounds_toArray, List.set_cons_zero, List.set_cons_succ]
        refine takeW 6 ?_ rfl (by kernel_rfl) (by kernel_rfl) (by kernel_rfl) (fun _ _ _ h => h) (by rfl) ?_ hS_ ?_
        rotate_left
        · intro w hSw
          try dsimp only at hSw
          go_simp
          with_reducible rfl
        try simp only [Act.put, List.setIfInBounds_toArray, List.set_cons_zero, List.set_cons_succ]
        refine takeW 7 ?_ rfl (by kernel_rfl) (by kernel_rfl) (by kernel_rfl) (fun _ _ _ h => h) (by rfl) ?_ hS_ ?_
        rotate_left
        · intro w hSw
          try dsimp only at hSw
          go_simp
          with_reducible rfl
        try simp only [Act.put, List.setIfInBounds_toArray, List.set_cons_zero, List.set_cons_succ]
        refine takeW 8 ?_ rfl (by kernel_rfl) (by kernel_rfl) (by kernel_rfl) (fun _ _ _ h => h) (by rfl) ?_ hS_ ?_
        rotate_left
        · intro w hSw
          try dsimp only at hSw
          go_simp
          with_reducible rfl
        try simp only [Act.put, List.setIfInBounds_toArray, List.set_cons_zero, List.set_cons_succ]
        refine wpAnyH_done (by kernel_rfl) ?_ _
        clear hS_ hS0
        go_wp2_with fail
        go_roundw
        case rel => exact ⟨k + 1, HLT.out, by go_num, HBR.out.drew⟩
        case measure => have := HLT.out; simp [intOf] <;> omega
      · obtain rfl : k = X.length := by omega
        have HBR := Hd.mk (ch4 HB20.out hB)
        clear hB hlt
        go_wp2_with fail
        go_ret
        exact ⟨rfl, HBR.out⟩
  · go_enter Try.func23, Try.ntmps23
    go_wp2_with fail
    refine (clone_app _ l _ HS.out (by omega)).mono ?_
    rintro e w1 ⟨v7, rfl, hO, hB⟩
    have FO := Hd.mk (OwnE.src hO)
    clear hO
    have HB1 := Hd.mk hB
    have Ft_1 := Hd.mk (HS.out.below hB)
    clear HS
    clear hB
    go_wp2_with fail
    refine (next_bad _ l ah h _ FO.out 2 HEE.out (by decide)).mono ?_
    rintro e w2 ⟨rfl, hB⟩
    have HB3 := Hd.mk (ch4 HB1.out hB)
    have Ft_3 := Hd.mk (Ft_1.out.below hB)
    have Fo_3 := Hd.mk (FO.out.below hB)
    clear HB1 Ft_1 FO
    clear hB
    go_wp2_with fail
    obtain ⟨A4, hW⟩ : ∃ W, (w2.alloc (.cells #[.int .i64 0, .int .i64 0] 28)) = W := ⟨_, rfl⟩
    have hX : Below w2.heap.size w2 A4 := by rw [← hW]; exact bl_alloc (Below.refl _ _)
    have hF : BoxF A4 w2.heap.size (.cells #[.int .i64 0, .int .i64 0] 28 (0, 0)) := by rw [← hW]; exact World.alloc_heap_new _ _
    have HZA4 : Hd (A4.heap.size = w2.heap.size + 1) := ⟨by rw [← hW]; simp⟩
    rw [hW]
    clear hW
    have HB5 := Hd.mk (ch4 HB3.out hX)
    have Ft_5 := Hd.mk (Ft_3.out.below hX)
    have Fo_5 := Hd.mk (Fo_3.out.below hX)
    clear HB3 Ft_3 Fo_3
    clear hX
    have FB5 := Hd.mk hF
    clear hF
    refine (plan_e HEE.out (by decide) Fo_5.out).mono ?_
    rintro e w6 ⟨v11, rfl, hO, hB⟩
    have HB7 := Hd.mk (ch4 HB5.out hB)
    have Ft_7 := Hd.mk (Ft_5.out.below hB)
    have Fo_7 := Hd.mk (Fo_5.out.below hB)
    have Fb8_7 := Hd.mk (FB5.out.below hB)
    clear HB5 Ft_5 Fo_5 FB5
    obtain ⟨a11, c11, rfl⟩ := hO.shape
    clear hB hO
    go_wp2_with fail
    refine (count_e HEE.out (by decide) Fo_7.out).mono ?_
    rintro e w8 ⟨rfl, hB⟩
    have HB9 := Hd.mk (ch4 HB7.out hB)
    have Ft_9 := Hd.mk (Ft_7.out.below hB)
    have Fo_9 := Hd.mk (Fo_7.out.below hB)
    have Fb8_9 := Hd.mk (Fb8_7.out.below hB)
    clear HB7 Ft_7 Fo_7 Fb8_7
    clear hB
    go_wp2_with fail
    refine (equal_at (b := true) (decide_eq_true rfl) Fo_9.out Ft_9.out).mono ?_
    rintro e w10 ⟨rfl, hB⟩
    have HB11 := Hd.mk (ch4 HB9.out hB)
    have Ft_11 := Hd.mk (Ft_9.out.below hB)
    have Fo_11 := Hd.mk (Fo_9.out.below hB)
    have Fb8_11 := Hd.mk (Fb8_9.out.below hB)
    clear HB9 Ft_9 Fo_9 Fb8_9
    clear hB
    go_wp2_with fail
    refine (rwrong_at HEE.out Ft_11.out).mono ?_
    rintro e w12 ⟨rfl, hB⟩
    have HB13 := Hd.mk (ch4 HB11.out hB)
    have Ft_13 := Hd.mk (Ft_11.out.below hB)
    have Fo_13 := Hd.mk (Fo_11.out.below hB)
    have Fb8_13 := Hd.mk (Fb8_11.out.below hB)
    clear HB11 Ft_11 Fo_11 Fb8_11
    clear hB
    have c0 := cells_cell Fb8_13.out 0
    have c1 := cells_cell Fb8_13.out 1
    have e0 := fun W => eqv_w28 0 0 0 0 W
    have gd := guard28
    go_wp2_with fail
    go_ret
    exact ⟨rfl, HB13.out⟩
  · go_enter Try.func23, Try.ntmps23
    go_wp2_with fail
    refine (clone_app _ l _ HS.out (by omega)).mono ?_
    rintro e w1 ⟨v7, rfl, hO, hB⟩
    have FO := Hd.mk (OwnE.src hO)
    clear hO
    have HB1 := Hd.mk hB
    have Ft_1 := Hd.mk (HS.out.below hB)
    clear HS
    clear hB
    go_wp2_with fail
    refine (next_bad _ l ah h _ FO.out 5 HEE.out (by decide)).mono ?_
    rintro e w2 ⟨rfl, hB⟩
    have HB3 := Hd.mk (ch4 HB1.out hB)
    have Ft_3 := Hd.mk (Ft_1.out.below hB)
    have Fo_3 := Hd.mk (FO.out.below hB)
    clear HB1 Ft_1 FO
    clear hB
    go_wp2_with fail
    obtain ⟨A4, hW⟩ : ∃ W, (w2.alloc (.cells #[.int .i64 0, .int .i64 0] 28)) = W := ⟨_, rfl⟩
    have hX : Below w2.heap.size w2 A4 := by rw [← hW]; exact bl_alloc (Below.refl _ _)
    have hF : BoxF A4 w2.heap.size (.cells #[.int .i64 0, .int .i64 0] 28 (0, 0)) := by rw [← hW]; exact World.alloc_heap_new _ _
    have HZA4 : Hd (A4.heap.size = w2.heap.size + 1) := ⟨by rw [← hW]; simp⟩
    rw [hW]
    clear hW
    have HB5 := Hd.mk (ch4 HB3.out hX)
    have Ft_5 := Hd.mk (Ft_3.out.below hX)
    have Fo_5 := Hd.mk (Fo_3.out.below hX)
    clear HB3 Ft_3 Fo_3
    clear hX
    have FB5 := Hd.mk hF
    clear hF
    refine (plan_e HEE.out (by decide) Fo_5.out).mono ?_
    rintro e w6 ⟨v11, rfl, hO, hB⟩
    have HB7 := Hd.mk (ch4 HB5.out hB)
    have Ft_7 := Hd.mk (Ft_5.out.below hB)
    have Fo_7 := Hd.mk (Fo_5.out.below hB)
    have Fb8_7 := Hd.mk (FB5.out.below hB)
    clear HB5 Ft_5 Fo_5 FB5
    obtain ⟨a11, c11, rfl⟩ := hO.shape
    clear hB hO
    go_wp2_with fail
    refine (count_e HEE.out (by decide) Fo_7.out).mono ?_
    rintro e w8 ⟨rfl, hB⟩
    have HB9 := Hd.mk (ch4 HB7.out hB)
    have Ft_9 := Hd.mk (Ft_7.out.below hB)
    have Fo_9 := Hd.mk (Fo_7.out.below hB)
    have Fb8_9 := Hd.mk (Fb8_7.out.below hB)
    clear HB7 Ft_7 Fo_7 Fb8_7
    clear hB
    go_wp2_with fail
    refine (equal_at (b := true) (decide_eq_true rfl) Fo_9.out Ft_9.out).mono ?_
    rintro e w10 ⟨rfl, hB⟩
    have HB11 := Hd.mk (ch4 HB9.out hB)
    have Ft_11 := Hd.mk (Ft_9.out.below hB)
    have Fo_11 := Hd.mk (Fo_9.out.below hB)
    have Fb8_11 := Hd.mk (Fb8_9.out.below hB)
    clear HB9 Ft_9 Fo_9 Fb8_9
    clear hB
    go_wp2_with fail
    refine (rwrong_at HEE.out Ft_11.out).mono ?_
    rintro e w12 ⟨rfl, hB⟩
    have HB13 := Hd.mk (ch4 HB11.out hB)
    have Ft_13 := Hd.mk (Ft_11.out.below hB)
    have Fo_13 := Hd.mk (Fo_11.out.below hB)
    have Fb8_13 := Hd.mk (Fb8_11.out.below hB)
    clear HB11 Ft_11 Fo_11 Fb8_11
    clear hB
    have c0 := cells_cell Fb8_13.out 0
    have c1 := cells_cell Fb8_13.out 1
    have e0 := fun W => eqv_w28 0 0 0 0 W
    have gd := guard28
    go_wp2_with fail
    go_ret
    exact ⟨rfl, HB13.out⟩
end Go.Proofs.Ytlblpmadehikgaa
