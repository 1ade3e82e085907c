/- The laws' awake. -/
import Derived.Test.YtlblpmadehikgaaC1
namespace Go.Proofs.Ytlblpmadehikgaa
open Go.RowKit
set_option linter.unusedVariables false

theorem SrcC.some {w : World} {v : Value} {cs : List (Int × Int)} (h : SrcC w v cs) (hl : 0 < cs.length) : ∃ b off c, v = .slice (some ⟨b, off, none⟩) cs.length c ∧ SrcC w (.slice (some ⟨b, off, none⟩) cs.length c) cs := by
  rcases h with ⟨rfl, _⟩ | ⟨b, off, c, rfl, h1, h2, hb, hc⟩
  · simp at hl
  · exact ⟨b, off, c, rfl, .inr ⟨b, off, c, rfl, h1, h2, hb, hc⟩⟩
theorem srcLitW (w : World) (l : List (Int × Int)) (hl : l.length ≤ 100000) : SrcC (w.alloc (.cells (flat l).toArray 28)) (.slice (some ⟨w.heap.size, 0, none⟩) l.length l.length) l := by
  refine .inr ⟨w.heap.size, 0, l.length, rfl, Nat.le_refl _, by simp only [maxLen]; omega, by simp, fun j hj => ?_⟩
  obtain ⟨h1, h2⟩ := flat_get l j hj
  refine ⟨?_, ?_⟩
  · rw [cells_cell (World.alloc_heap_new _ _)]; simpa using h1
  · rw [cells_cell (World.alloc_heap_new _ _)]; simpa [Nat.zero_add] using h2

set_option maxRecDepth 100000 in
set_option maxHeartbeats 4000000 in
theorem awake_any (w : World) : Calls Try.prog 19 #[] w fun e w' => e = .returned (.bool true) ∧ Below w.heap.size w w' := by
  have s20 : winsV 3 20 [7, 3, 12, 4] = [(3, 6), (7, 10), (12, 15)] := winsV_eq (S := [3, 4, 7, 12]) (by decide) (by decide) (by decide)
  have s13 : winsV 3 13 [7, 3, 12, 4] = [(3, 6), (7, 10), (12, 13)] := winsV_eq (S := [3, 4, 7, 12]) (by decide) (by decide) (by decide)
  have s12 : winsV 3 12 [7, 3, 12, 4] = [(3, 6), (7, 10)] := winsV_eq (S := [3, 4, 7, 12]) (by decide) (by decide) (by decide)
  have s3 : winsV 3 3 [7, 3, 12, 4] = [] := winsV_eq (S := [3, 4, 7, 12]) (by decide) (by decide) (by decide)
  have sM : winsV 5 281474976710657 [281474976710656] = [(281474976710656, 281474976710657)] := winsV_eq (S := [281474976710656]) (by decide) (by decide) (by decide)
  have HS20 := Hd.mk s20
  have HS13 := Hd.mk s13
  have HS12 := Hd.mk s12
  have HS3 := Hd.mk s3
  have HSM := Hd.mk sM
  clear s20 s13 s12 s3 sM
  go_enter Try.func19, Try.ntmps19
  go_wp2_with fail
  obtain ⟨La, hW⟩ : ∃ W, (w.alloc (.cells #[.int .i64 7, .int .i64 3, .int .i64 12, .int .i64 4] 3)) = W := ⟨_, rfl⟩
  have hX : Below w.heap.size w La := by rw [← hW]; exact (Below.refl _ _).alloc (Nat.le_refl _) _
  have hS0 : SrcI La (.slice (some ⟨w.heap.size, 0, none⟩) 4 4) [7, 3, 12, 4] := by
    rw [← hW]
    have h := srcLitI w [7, 3, 12, 4] (by decide)
    exact h
  rw [hW]
  clear hW
  have HB1 := Hd.mk hX
  clear hX
  have FLa0 := Hd.mk hS0
  clear hS0
  refine (next_some (by decide) HS20.out (I := [1, 3]) (by decide) FLa0.out).mono ?_
  rintro e w2 ⟨v3, rfl, hO, hB⟩
  have FNv32 := Hd.mk (hO.src)
  have HB3 := Hd.mk (ch4 HB1.out hB)
  have FLa0_3 := Hd.mk (FLa0.out.below hB)
  clear HB1 FLa0
  clear hB hO
  go_wp2_with fail
  obtain ⟨A4, hW⟩ : ∃ W, (w2.alloc (.cells #[.int .i64 3, .int .i64 6] 28)) = W := ⟨_, rfl⟩
  have hX : Below w2.heap.size w2 A4 := by rw [← hW]; exact bl_alloc (Below.refl _ _)
  have hF : BoxF A4 w2.heap.size (.cells #[.int .i64 3, .int .i64 6] 28 (0, 0)) := by rw [← hW]; exact World.alloc_heap_new _ _
  have HZA4 : Hd (A4.heap.size = w2.heap.size + 1) := ⟨by rw [← hW]; simp⟩
  rw [hW]
  clear hW
  have HB5 := Hd.mk (ch4 HB3.out hX)
  have FLa0_5 := Hd.mk (FLa0_3.out.below hX)
  have Fv3_5 := Hd.mk (FNv32.out.below hX)
  clear HB3 FLa0_3 FNv32
  clear hX
  have FB5 := Hd.mk hF
  clear hF
  refine (plan_at (by decide) HS20.out FLa0_5.out).mono ?_
  rintro e w6 ⟨v5, rfl, hO, hB⟩
  have FNv56 := Hd.mk (hO.src)
  have HB7 := Hd.mk (ch4 HB5.out hB)
  have FLa0_7 := Hd.mk (FLa0_5.out.below hB)
  have Fv3_7 := Hd.mk (Fv3_5.out.below hB)
  have Fb2_7 := Hd.mk (FB5.out.below hB)
  clear HB5 FLa0_5 Fv3_5 FB5
  clear hB hO
  go_wp2_with fail
  refine (plan_at (by decide) HS13.out FLa0_7.out).mono ?_
  rintro e w8 ⟨v7, rfl, hO, hB⟩
  have FNv78 := Hd.mk (hO.src)
  have HB9 := Hd.mk (ch4 HB7.out hB)
  have FLa0_9 := Hd.mk (FLa0_7.out.below hB)
  have Fv3_9 := Hd.mk (Fv3_7.out.below hB)
  have Fb2_9 := Hd.mk (Fb2_7.out.below hB)
  have Fv5_9 := Hd.mk (FNv56.out.below hB)
  clear HB7 FLa0_7 Fv3_7 Fb2_7 FNv56
  clear hB hO
  obtain ⟨b7, o7, c7, rfl, hv7⟩ := SrcC.some FNv78.out (by decide)
  have F77 := Hd.mk hv7
  clear hv7 FNv78
  go_wp2_with fail
  refine (count_at (n := 2) (by decide) HS12.out (by decide) FLa0_9.out).mono ?_
  rintro e w10 ⟨rfl, hB⟩
  have HB11 := Hd.mk (ch4 HB9.out hB)
  have FLa0_11 := Hd.mk (FLa0_9.out.below hB)
  have Fv3_11 := Hd.mk (Fv3_9.out.below hB)
  have Fb2_11 := Hd.mk (Fb2_9.out.below hB)
  have Fv5_11 := Hd.mk (Fv5_9.out.below hB)
  have Fv7_11 := Hd.mk (F77.out.below hB)
  clear HB9 FLa0_9 Fv3_9 Fb2_9 Fv5_9 F77
  clear hB
  go_wp2_with fail
  refine (next_none (by decide) HS3.out FLa0_11.out).mono ?_
  rintro e w12 ⟨v12, rfl, hO, hB⟩
  have HB13 := Hd.mk (ch4 HB11.out hB)
  have FLa0_13 := Hd.mk (FLa0_11.out.below hB)
  have Fv3_13 := Hd.mk (Fv3_11.out.below hB)
  have Fb2_13 := Hd.mk (Fb2_11.out.below hB)
  have Fv5_13 := Hd.mk (Fv5_11.out.below hB)
  have Fv7_13 := Hd.mk (Fv7_11.out.below hB)
  clear HB11 FLa0_11 Fv3_11 Fb2_11 Fv5_11 Fv7_11
  clear hB hO
  have ca0 := cells_cell (BoxF.below Fb2_13.out (bl_alloc (Below.refl _ _) : Below w12.heap.size w12 (w12.alloc (.cells #[.int .i64 0, .int .i64 0] 28)))) 0
  have ca1 := cells_cell (BoxF.below Fb2_13.out (bl_alloc (Below.refl _ _) : Below w12.heap.size w12 (w12.alloc (.cells #[.int .i64 0, .int .i64 0] 28)))) 1
  go_wp2_with fail
  clear ca0 ca1
  obtain ⟨A14, hW⟩ : ∃ W, (w12.alloc (.cells #[.int .i64 0, .int .i64 0] 28)) = W := ⟨_, rfl⟩
  have hX : Below w12.heap.size w12 A14 := by rw [← hW]; exact bl_alloc (Below.refl _ _)
  have hF : BoxF A14 w12.heap.size (.cells #[.int .i64 0, .int .i64 0] 28 (0, 0)) := by rw [← hW]; exact World.alloc_heap_new _ _
  have HZA14 : Hd (A14.heap.size = w12.heap.size + 1) := ⟨by rw [← hW]; simp⟩
  rw [hW]
  clear hW
  have HB15 := Hd.mk (ch4 HB13.out hX)
  have FLa0_15 := Hd.mk (FLa0_13.out.below hX)
  have Fv3_15 := Hd.mk (Fv3_13.out.below hX)
  have Fb2_15 := Hd.mk (Fb2_13.out.below hX)
  have Fv5_15 := Hd.mk (Fv5_13.out.below hX)
  have Fv7_15 := Hd.mk (Fv7_13.out.below hX)
  clear HB13 FLa0_13 Fv3_13 Fb2_13 Fv5_13 Fv7_13
  clear hX
  have FB15 := Hd.mk hF
  clear hF
  refine (emit_at (v := 7) (E := 0) (by decide) (by decide) _).mono ?_
  rintro e w16 ⟨rfl, hB⟩
  have HB17 := Hd.mk (ch4 HB15.out hB)
  have FLa0_17 := Hd.mk (FLa0_15.out.below hB)
  have Fv3_17 := Hd.mk (Fv3_15.out.below hB)
  have Fb2_17 := Hd.mk (Fb2_15.out.below hB)
  have Fv5_17 := Hd.mk (Fv5_15.out.below hB)
  have Fv7_17 := Hd.mk (Fv7_15.out.below hB)
  have Fb11_17 := Hd.mk (FB15.out.below hB)
  clear HB15 FLa0_15 Fv3_15 Fb2_15 Fv5_15 Fv7_15 FB15
  clear hB
  have cb00 := cells_cell Fb2_17.out 0
  have cb01 := cells_cell Fb2_17.out 1
  go_wp2_with fail
  clear cb00 cb01
  refine (emit_at (v := 0) (E := 270) (by decide) (by decide) _).mono ?_
  rintro e w18 ⟨rfl, hB⟩
  have HB19 := Hd.mk (ch4 HB17.out hB)
  have FLa0_19 := Hd.mk (FLa0_17.out.below hB)
  have Fv3_19 := Hd.mk (Fv3_17.out.below hB)
  have Fb2_19 := Hd.mk (Fb2_17.out.below hB)
  have Fv5_19 := Hd.mk (Fv5_17.out.below hB)
  have Fv7_19 := Hd.mk (Fv7_17.out.below hB)
  have Fb11_19 := Hd.mk (Fb11_17.out.below hB)
  clear HB17 FLa0_17 Fv3_17 Fb2_17 Fv5_17 Fv7_17 Fb11_17
  clear hB
  have cb10 := cells_cell Fb2_19.out 0
  have cb11 := cells_cell Fb2_19.out 1
  go_wp2_with fail
  clear cb10 cb11
  refine (emit_at (v := 0) (E := 271) (by decide) (by decide) _).mono ?_
  rintro e w20 ⟨rfl, hB⟩
  have HB21 := Hd.mk (ch4 HB19.out hB)
  have FLa0_21 := Hd.mk (FLa0_19.out.below hB)
  have Fv3_21 := Hd.mk (Fv3_19.out.below hB)
  have Fb2_21 := Hd.mk (Fb2_19.out.below hB)
  have Fv5_21 := Hd.mk (Fv5_19.out.below hB)
  have Fv7_21 := Hd.mk (Fv7_19.out.below hB)
  have Fb11_21 := Hd.mk (Fb11_19.out.below hB)
  clear HB19 FLa0_19 Fv3_19 Fb2_19 Fv5_19 Fv7_19 Fb11_19
  clear hB
  go_wp2_with fail
  clear FLa0_21 Fb11_21
  obtain ⟨Lb, hW⟩ : ∃ W, (w20.alloc (.cells #[.int .i64 281474976710656] 3)) = W := ⟨_, rfl⟩
  have hX : Below w20.heap.size w20 Lb := by rw [← hW]; exact (Below.refl _ _).alloc (Nat.le_refl _) _
  have hS0 : SrcI Lb (.slice (some ⟨w20.heap.size, 0, none⟩) 1 1) [281474976710656] := by
    rw [← hW]
    have h := srcLitI w20 [281474976710656] (by decide)
    exact h
  rw [hW]
  clear hW
  have HB22 := Hd.mk (ch4 HB21.out hX)
  have Fv3_22 := Hd.mk (Fv3_21.out.below hX)
  have Fb2_22 := Hd.mk (Fb2_21.out.below hX)
  have Fv5_22 := Hd.mk (Fv5_21.out.below hX)
  have Fv7_22 := Hd.mk (Fv7_21.out.below hX)
  clear HB21 Fv3_21 Fb2_21 Fv5_21 Fv7_21
  clear hX
  have FLb0 := Hd.mk hS0
  clear hS0
  refine (next_some (by decide) HSM.out (I := [0]) (by decide) FLb0.out).mono ?_
  rintro e w23 ⟨v21, rfl, hO, hB⟩
  have HB24 := Hd.mk (ch4 HB22.out hB)
  have Fv3_24 := Hd.mk (Fv3_22.out.below hB)
  have Fb2_24 := Hd.mk (Fb2_22.out.below hB)
  have Fv5_24 := Hd.mk (Fv5_22.out.below hB)
  have Fv7_24 := Hd.mk (Fv7_22.out.below hB)
  have FLb0_24 := Hd.mk (FLb0.out.below hB)
  clear HB22 Fv3_22 Fb2_22 Fv5_22 Fv7_22 FLb0
  clear hB hO
  clear FLb0_24
  have cc0 := cells_cell (BoxF.below Fb2_24.out (bl_alloc (Below.refl _ _) : Below w23.heap.size w23 (w23.alloc (.cells #[.int .i64 281474976710656, .int .i64 281474976710657] 28)))) 0
  have cc1 := cells_cell (BoxF.below Fb2_24.out (bl_alloc (Below.refl _ _) : Below w23.heap.size w23 (w23.alloc (.cells #[.int .i64 281474976710656, .int .i64 281474976710657] 28)))) 1
  have e1 := fun W => eqv_w28 3 6 3 6 W
  have g28 := guard28
  go_wp2_with fail
  clear cc0 cc1 e1
  obtain ⟨A25, hW⟩ : ∃ W, (w23.alloc (.cells #[.int .i64 281474976710656, .int .i64 281474976710657] 28)) = W := ⟨_, rfl⟩
  have hX : Below w23.heap.size w23 A25 := by rw [← hW]; exact bl_alloc (Below.refl _ _)
  have hF : BoxF A25 w23.heap.size (.cells #[.int .i64 281474976710656, .int .i64 281474976710657] 28 (0, 0)) := by rw [← hW]; exact World.alloc_heap_new _ _
  have HZA25 : Hd (A25.heap.size = w23.heap.size + 1) := ⟨by rw [← hW]; simp⟩
  rw [hW]
  clear hW
  have HB26 := Hd.mk (ch4 HB24.out hX)
  have Fv3_26 := Hd.mk (Fv3_24.out.below hX)
  have Fb2_26 := Hd.mk (Fb2_24.out.below hX)
  have Fv5_26 := Hd.mk (Fv5_24.out.below hX)
  have Fv7_26 := Hd.mk (Fv7_24.out.below hX)
  clear HB24 Fv3_24 Fb2_24 Fv5_24 Fv7_24
  clear hX
  have FB26 := Hd.mk hF
  clear hF
  obtain ⟨Lc, hW⟩ : ∃ W, (A25.alloc (.cells #[.int .i64 1, .int .i64 3] 3)) = W := ⟨_, rfl⟩
  have hX : Below A25.heap.size A25 Lc := by rw [← hW]; exact (Below.refl _ _).alloc (Nat.le_refl _) _
  have hS0 : SrcI Lc (.slice (some ⟨A25.heap.size, 0, none⟩) 2 2) [1, 3] := by
    rw [← hW]
    have h := srcLitI A25 [1, 3] (by decide)
    exact h
  rw [hW]
  clear hW
  have HB27 := Hd.mk (ch4 HB26.out hX)
  have Fv3_27 := Hd.mk (Fv3_26.out.below hX)
  have Fb2_27 := Hd.mk (Fb2_26.out.below hX)
  have Fv5_27 := Hd.mk (Fv5_26.out.below hX)
  have Fv7_27 := Hd.mk (Fv7_26.out.below hX)
  have Fb20_27 := Hd.mk (FB26.out.below hX)
  clear HB26 Fv3_26 Fb2_26 Fv5_26 Fv7_26 FB26
  clear hX
  have FLc0 := Hd.mk hS0
  clear hS0
  rw [HZA25.out] at FLc0
  clear HZA25
  refine (equal_at (b := true) (by decide) Fv3_27.out FLc0.out).mono ?_
  rintro e w28 ⟨rfl, hB⟩
  have HB29 := Hd.mk (ch4 HB27.out hB)
  have Fv3_29 := Hd.mk (Fv3_27.out.below hB)
  have Fb2_29 := Hd.mk (Fb2_27.out.below hB)
  have Fv5_29 := Hd.mk (Fv5_27.out.below hB)
  have Fv7_29 := Hd.mk (Fv7_27.out.below hB)
  have Fb20_29 := Hd.mk (Fb20_27.out.below hB)
  have FLc0_29 := Hd.mk (FLc0.out.below hB)
  clear HB27 Fv3_27 Fb2_27 Fv5_27 Fv7_27 Fb20_27 FLc0
  clear hB
  clear Fv3_29 FLc0_29 Fb2_29
  go_wp2_with fail
  obtain ⟨A30, hW⟩ : ∃ W, (w28.alloc (.cells #[.int .i64 3, .int .i64 6, .int .i64 7, .int .i64 10, .int .i64 12, .int .i64 15] 28)) = W := ⟨_, rfl⟩
  have hX : Below w28.heap.size w28 A30 := by rw [← hW]; exact bl_alloc (Below.refl _ _)
  have hF : SrcC A30 (.slice (some ⟨w28.heap.size, 0, none⟩) 3 3) [(3, 6), (7, 10), (12, 15)] := by rw [← hW]; exact srcLitW w28 [(3, 6), (7, 10), (12, 15)] (by decide)
  rw [hW]
  clear hW
  have HB31 := Hd.mk (ch4 HB29.out hX)
  have Fv5_31 := Hd.mk (Fv5_29.out.below hX)
  have Fv7_31 := Hd.mk (Fv7_29.out.below hX)
  have Fb20_31 := Hd.mk (Fb20_29.out.below hX)
  clear HB29 Fv5_29 Fv7_29 Fb20_29
  clear hX
  have FB31 := Hd.mk hF
  clear hF
  refine (equalW_at (b := true) (by decide) Fv5_31.out FB31.out).mono ?_
  rintro e w32 ⟨rfl, hB⟩
  have HB33 := Hd.mk (ch4 HB31.out hB)
  have Fv5_33 := Hd.mk (Fv5_31.out.below hB)
  have Fv7_33 := Hd.mk (Fv7_31.out.below hB)
  have Fb20_33 := Hd.mk (Fb20_31.out.below hB)
  have FWd_33 := Hd.mk (FB31.out.below hB)
  clear HB31 Fv5_31 Fv7_31 Fb20_31 FB31
  clear hB
  clear Fv5_33 FWd_33
  obtain ⟨b7x, o7x, he7, hb7, -, d7⟩ := SrcC.at Fv7_33.out 2 (by decide)
  obtain ⟨rfl, rfl⟩ : b7 = b7x ∧ o7 = o7x := by simpa using he7
  simp only [List.getElem_cons_succ, List.getElem_cons_zero] at d7
  have cd0 := cells_cell Fb20_33.out 0
  have cd1 := cells_cell Fb20_33.out 1
  have e2 := fun W => eqv_w28 281474976710656 281474976710657 281474976710656 281474976710657 W
  go_wp2_with fail
  go_ret
  exact ⟨rfl, HB33.out⟩
end Go.Proofs.Ytlblpmadehikgaa
