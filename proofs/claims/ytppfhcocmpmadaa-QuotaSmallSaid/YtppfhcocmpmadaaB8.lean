/- Walk of the laws' awake. -/
import Derived.Test.YtppfhcocmpmadaaB7
import Derived.Deep.RegionHeld3
namespace Go.Proofs.Ytppfhcocmpmadaa
open Go.RowKit
set_option linter.unusedVariables false

theorem aw_bookg (e : Int) (g : Nat) (w : World) (hg : w.heap[g]? = some (.cells #[.int .i64 10, .int .i64 5, .int .i64 3, .int .i64 8] 3 (0, 0))) : Calls Try.prog 24 #[.int .i64 e, .slice (some ⟨g, 0, none⟩) 4 4] w fun x w' => x = .returned (v8 10 5 3 8 e 0 0 0) ∧ Below w.heap.size w w' :=
  book_any e 10 5 3 8 g w hg
theorem srcAt {w : World} {g : Nat} (cs : List (Int × Int)) (h : w.heap[g]? = some (.cells (flat cs).toArray 32 (0, 0))) (hl : cs.length ≤ 100) : SrcC w (.slice (some ⟨g, 0, none⟩) cs.length cs.length) cs := by
  refine .inr ⟨g, 0, cs.length, rfl, Nat.le_refl _, by simp only [maxLen]; omega, lt_of_heap h, fun j hj => ?_⟩
  obtain ⟨h1, h2⟩ := flat_get cs j hj
  rw [cells_cell h, cells_cell h]
  simp only [Nat.zero_add, List.getElem?_toArray]
  exact ⟨h1, h2⟩
theorem aw_src {w9 W : World} {v18 : Value} {t1 t3 t10 t16 : Nat} (h : W.cell? ⟨t1, 0, none⟩ = some (.int .i64 10) ∧ W.cell? ⟨t1, 1, none⟩ = some (.int .i64 5) ∧ W.cell? ⟨t1, 2, none⟩ = some (.int .i64 3) ∧ W.cell? ⟨t1, 3, none⟩ = some (.int .i64 8) ∧ W.cell? ⟨t1, 4, none⟩ = some (.int .i64 0) ∧ W.cell? ⟨t1, 5, none⟩ = some (.int .i64 0) ∧ W.cell? ⟨t1, 6, none⟩ = some (.int .i64 0) ∧ W.cell? ⟨t1, 7, none⟩ = some (.int .i64 0) ∧ W.cell? ⟨t3, 0, none⟩ = some (.int .i64 10) ∧ W.cell? ⟨t3, 1, none⟩ = some (.int .i64 5) ∧ W.cell? ⟨t3, 2, none⟩ = some (.int .i64 3) ∧ W.cell? ⟨t3, 3, none⟩ = some (.int .i64 8) ∧ W.cell? ⟨t3, 4, none⟩ = some (.int .i64 10) ∧ W.cell? ⟨t3, 5, none⟩ = some (.int .i64 0) ∧ W.cell? ⟨t3, 6, none⟩ = some (.int .i64 0) ∧ W.cell? ⟨t3, 7, none⟩ = some (.int .i64 0) ∧ W.cell? ⟨t10, 0, none⟩ = some (.int .i64 10) ∧ W.cell? ⟨t10, 1, none⟩ = some (.int .i64 5) ∧ W.cell? ⟨t10, 2, none⟩ = some (.int .i64 3) ∧ W.cell? ⟨t10, 3, none⟩ = some (.int .i64 8) ∧ W.cell? ⟨t10, 4, none⟩ = some (.int .i64 8) ∧ W.cell? ⟨t10, 5, none⟩ = some (.int .i64 0) ∧ W.cell? ⟨t10, 6, none⟩ = some (.int .i64 0) ∧ W.cell? ⟨t10, 7, none⟩ = some (.int .i64 0) ∧ W.cell? ⟨t16, 0, none⟩ = some (.int .i64 12) ∧ W.cell? ⟨t16, 1, none⟩ = some (.int .i64 0) ∧ W.cell? ⟨t16, 2, none⟩ = some (.int .i64 0) ∧ W.cell? ⟨t16, 3, none⟩ = some (.int .i64 0) ∧ SrcC W v18 [(1, 2), (0, -7)] ∧ Below w9.heap.size w9 W) : SrcC W v18 [(1, 2), (0, -7)] := by
  obtain ⟨h0, h1, h2, h3, h4, h5, h6, h7, h8, h9, h10, h11, h12, h13, h14, h15, h16, h17, h18, h19, h20, h21, h22, h23, h24, h25, h26, h27, h28, h29⟩ := h
  exact h28
theorem aw_below {w9 W : World} {v18 : Value} {t1 t3 t10 t16 : Nat} (h : W.cell? ⟨t1, 0, none⟩ = some (.int .i64 10) ∧ W.cell? ⟨t1, 1, none⟩ = some (.int .i64 5) ∧ W.cell? ⟨t1, 2, none⟩ = some (.int .i64 3) ∧ W.cell? ⟨t1, 3, none⟩ = some (.int .i64 8) ∧ W.cell? ⟨t1, 4, none⟩ = some (.int .i64 0) ∧ W.cell? ⟨t1, 5, none⟩ = some (.int .i64 0) ∧ W.cell? ⟨t1, 6, none⟩ = some (.int .i64 0) ∧ W.cell? ⟨t1, 7, none⟩ = some (.int .i64 0) ∧ W.cell? ⟨t3, 0, none⟩ = some (.int .i64 10) ∧ W.cell? ⟨t3, 1, none⟩ = some (.int .i64 5) ∧ W.cell? ⟨t3, 2, none⟩ = some (.int .i64 3) ∧ W.cell? ⟨t3, 3, none⟩ = some (.int .i64 8) ∧ W.cell? ⟨t3, 4, none⟩ = some (.int .i64 10) ∧ W.cell? ⟨t3, 5, none⟩ = some (.int .i64 0) ∧ W.cell? ⟨t3, 6, none⟩ = some (.int .i64 0) ∧ W.cell? ⟨t3, 7, none⟩ = some (.int .i64 0) ∧ W.cell? ⟨t10, 0, none⟩ = some (.int .i64 10) ∧ W.cell? ⟨t10, 1, none⟩ = some (.int .i64 5) ∧ W.cell? ⟨t10, 2, none⟩ = some (.int .i64 3) ∧ W.cell? ⟨t10, 3, none⟩ = some (.int .i64 8) ∧ W.cell? ⟨t10, 4, none⟩ = some (.int .i64 8) ∧ W.cell? ⟨t10, 5, none⟩ = some (.int .i64 0) ∧ W.cell? ⟨t10, 6, none⟩ = some (.int .i64 0) ∧ W.cell? ⟨t10, 7, none⟩ = some (.int .i64 0) ∧ W.cell? ⟨t16, 0, none⟩ = some (.int .i64 12) ∧ W.cell? ⟨t16, 1, none⟩ = some (.int .i64 0) ∧ W.cell? ⟨t16, 2, none⟩ = some (.int .i64 0) ∧ W.cell? ⟨t16, 3, none⟩ = some (.int .i64 0) ∧ SrcC W v18 [(1, 2), (0, -7)] ∧ Below w9.heap.size w9 W) : Below w9.heap.size w9 W := by
  obtain ⟨h0, h1, h2, h3, h4, h5, h6, h7, h8, h9, h10, h11, h12, h13, h14, h15, h16, h17, h18, h19, h20, h21, h22, h23, h24, h25, h26, h27, h28, h29⟩ := h
  exact h29
theorem aw_keep {w9 W W' : World} {v18 : Value} {t1 t3 t10 t16 : Nat} (h : W.cell? ⟨t1, 0, none⟩ = some (.int .i64 10) ∧ W.cell? ⟨t1, 1, none⟩ = some (.int .i64 5) ∧ W.cell? ⟨t1, 2, none⟩ = some (.int .i64 3) ∧ W.cell? ⟨t1, 3, none⟩ = some (.int .i64 8) ∧ W.cell? ⟨t1, 4, none⟩ = some (.int .i64 0) ∧ W.cell? ⟨t1, 5, none⟩ = some (.int .i64 0) ∧ W.cell? ⟨t1, 6, none⟩ = some (.int .i64 0) ∧ W.cell? ⟨t1, 7, none⟩ = some (.int .i64 0) ∧ W.cell? ⟨t3, 0, none⟩ = some (.int .i64 10) ∧ W.cell? ⟨t3, 1, none⟩ = some (.int .i64 5) ∧ W.cell? ⟨t3, 2, none⟩ = some (.int .i64 3) ∧ W.cell? ⟨t3, 3, none⟩ = some (.int .i64 8) ∧ W.cell? ⟨t3, 4, none⟩ = some (.int .i64 10) ∧ W.cell? ⟨t3, 5, none⟩ = some (.int .i64 0) ∧ W.cell? ⟨t3, 6, none⟩ = some (.int .i64 0) ∧ W.cell? ⟨t3, 7, none⟩ = some (.int .i64 0) ∧ W.cell? ⟨t10, 0, none⟩ = some (.int .i64 10) ∧ W.cell? ⟨t10, 1, none⟩ = some (.int .i64 5) ∧ W.cell? ⟨t10, 2, none⟩ = some (.int .i64 3) ∧ W.cell? ⟨t10, 3, none⟩ = some (.int .i64 8) ∧ W.cell? ⟨t10, 4, none⟩ = some (.int .i64 8) ∧ W.cell? ⟨t10, 5, none⟩ = some (.int .i64 0) ∧ W.cell? ⟨t10, 6, none⟩ = some (.int .i64 0) ∧ W.cell? ⟨t10, 7, none⟩ = some (.int .i64 0) ∧ W.cell? ⟨t16, 0, none⟩ = some (.int .i64 12) ∧ W.cell? ⟨t16, 1, none⟩ = some (.int .i64 0) ∧ W.cell? ⟨t16, 2, none⟩ = some (.int .i64 0) ∧ W.cell? ⟨t16, 3, none⟩ = some (.int .i64 0) ∧ SrcC W v18 [(1, 2), (0, -7)] ∧ Below w9.heap.size w9 W) (hB : Below W.heap.size W W') :
    W'.cell? ⟨t1, 0, none⟩ = some (.int .i64 10) ∧ W'.cell? ⟨t1, 1, none⟩ = some (.int .i64 5) ∧ W'.cell? ⟨t1, 2, none⟩ = some (.int .i64 3) ∧ W'.cell? ⟨t1, 3, none⟩ = some (.int .i64 8) ∧ W'.cell? ⟨t1, 4, none⟩ = some (.int .i64 0) ∧ W'.cell? ⟨t1, 5, none⟩ = some (.int .i64 0) ∧ W'.cell? ⟨t1, 6, none⟩ = some (.int .i64 0) ∧ W'.cell? ⟨t1, 7, none⟩ = some (.int .i64 0) ∧ W'.cell? ⟨t3, 0, none⟩ = some (.int .i64 10) ∧ W'.cell? ⟨t3, 1, none⟩ = some (.int .i64 5) ∧ W'.cell? ⟨t3, 2, none⟩ = some (.int .i64 3) ∧ W'.cell? ⟨t3, 3, none⟩ = some (.int .i64 8) ∧ W'.cell? ⟨t3, 4, none⟩ = some (.int .i64 10) ∧ W'.cell? ⟨t3, 5, none⟩ = some (.int .i64 0) ∧ W'.cell? ⟨t3, 6, none⟩ = some (.int .i64 0) ∧ W'.cell? ⟨t3, 7, none⟩ = some (.int .i64 0) ∧ W'.cell? ⟨t10, 0, none⟩ = some (.int .i64 10) ∧ W'.cell? ⟨t10, 1, none⟩ = some (.int .i64 5) ∧ W'.cell? ⟨t10, 2, none⟩ = some (.int .i64 3) ∧ W'.cell? ⟨t10, 3, none⟩ = some (.int .i64 8) ∧ W'.cell? ⟨t10, 4, none⟩ = some (.int .i64 8) ∧ W'.cell? ⟨t10, 5, none⟩ = some (.int .i64 0) ∧ W'.cell? ⟨t10, 6, none⟩ = some (.int .i64 0) ∧ W'.cell? ⟨t10, 7, none⟩ = some (.int .i64 0) ∧ W'.cell? ⟨t16, 0, none⟩ = some (.int .i64 12) ∧ W'.cell? ⟨t16, 1, none⟩ = some (.int .i64 0) ∧ W'.cell? ⟨t16, 2, none⟩ = some (.int .i64 0) ∧ W'.cell? ⟨t16, 3, none⟩ = some (.int .i64 0) ∧ SrcC W' v18 [(1, 2), (0, -7)] ∧ Below w9.heap.size w9 W' := by
  obtain ⟨h0, h1, h2, h3, h4, h5, h6, h7, h8, h9, h10, h11, h12, h13, h14, h15, h16, h17, h18, h19, h20, h21, h22, h23, h24, h25, h26, h27, h28, h29⟩ := h
  exact ⟨(hB.cell (p := ⟨t1, 0, none⟩) (World.block_lt_of_cell? _ _ h0)).trans h0,
    (hB.cell (p := ⟨t1, 1, none⟩) (World.block_lt_of_cell? _ _ h1)).trans h1,
    (hB.cell (p := ⟨t1, 2, none⟩) (World.block_lt_of_cell? _ _ h2)).trans h2,
    (hB.cell (p := ⟨t1, 3, none⟩) (World.block_lt_of_cell? _ _ h3)).trans h3,
    (hB.cell (p := ⟨t1, 4, none⟩) (World.block_lt_of_cell? _ _ h4)).trans h4,
    (hB.cell (p := ⟨t1, 5, none⟩) (World.block_lt_of_cell? _ _ h5)).trans h5,
    (hB.cell (p := ⟨t1, 6, none⟩) (World.block_lt_of_cell? _ _ h6)).trans h6,
    (hB.cell (p := ⟨t1, 7, none⟩) (World.block_lt_of_cell? _ _ h7)).trans h7,
    (hB.cell (p := ⟨t3, 0, none⟩) (World.block_lt_of_cell? _ _ h8)).trans h8,
    (hB.cell (p := ⟨t3, 1, none⟩) (World.block_lt_of_cell? _ _ h9)).trans h9,
    (hB.cell (p := ⟨t3, 2, none⟩) (World.block_lt_of_cell? _ _ h10)).trans h10,
    (hB.cell (p := ⟨t3, 3, none⟩) (World.block_lt_of_cell? _ _ h11)).trans h11,
    (hB.cell (p := ⟨t3, 4, none⟩) (World.block_lt_of_cell? _ _ h12)).trans h12,
    (hB.cell (p := ⟨t3, 5, none⟩) (World.block_lt_of_cell? _ _ h13)).trans h13,
    (hB.cell (p := ⟨t3, 6, none⟩) (World.block_lt_of_cell? _ _ h14)).trans h14,
    (hB.cell (p := ⟨t3, 7, none⟩) (World.block_lt_of_cell? _ _ h15)).trans h15,
    (hB.cell (p := ⟨t10, 0, none⟩) (World.block_lt_of_cell? _ _ h16)).trans h16,
    (hB.cell (p := ⟨t10, 1, none⟩) (World.block_lt_of_cell? _ _ h17)).trans h17,
    (hB.cell (p := ⟨t10, 2, none⟩) (World.block_lt_of_cell? _ _ h18)).trans h18,
    (hB.cell (p := ⟨t10, 3, none⟩) (World.block_lt_of_cell? _ _ h19)).trans h19,
    (hB.cell (p := ⟨t10, 4, none⟩) (World.block_lt_of_cell? _ _ h20)).trans h20,
    (hB.cell (p := ⟨t10, 5, none⟩) (World.block_lt_of_cell? _ _ h21)).trans h21,
    (hB.cell (p := ⟨t10, 6, none⟩) (World.block_lt_of_cell? _ _ h22)).trans h22,
    (hB.cell (p := ⟨t10, 7, none⟩) (World.block_lt_of_cell? _ _ h23)).trans h23,
    (hB.cell (p := ⟨t16, 0, none⟩) (World.block_lt_of_cell? _ _ h24)).trans h24,
    (hB.cell (p := ⟨t16, 1, none⟩) (World.block_lt_of_cell? _ _ h25)).trans h25,
    (hB.cell (p := ⟨t16, 2, none⟩) (World.block_lt_of_cell? _ _ h26)).trans h26,
    (hB.cell (p := ⟨t16, 3, none⟩) (World.block_lt_of_cell? _ _ h27)).trans h27,
    h28.below hB,
    ch4 h29 hB⟩

set_option maxRecDepth 100000 in
set_option maxHeartbeats 4000000 in
theorem awake_any (w : World) : Calls Try.prog 11 #[] w fun e w' => e = .returned (.bool true) ∧ Below w.heap.size w w' := by
  have gd27 := guard27
  have gd25 := guard25
  go_enter Try.func11, Try.ntmps11
  go_wp2_with fail
  refine (aw_new _).mono ?_
  rintro e w1 ⟨rfl, hB1⟩
  go_upto_region 2 with fail
  obtain ⟨W1, hW1⟩ : ∃ W, W = w1.alloc (.cells #[.int .i64 10, .int .i64 5, .int .i64 3, .int .i64 8, .int .i64 0, .int .i64 0, .int .i64 0, .int .i64 0] 27) := ⟨_, rfl⟩
  have hB : Below w.heap.size w W1 := by rw [hW1]; exact hB1.alloc hB1.size _
  have hT1 : W1.heap[w1.heap.size]? = some (.cells #[.int .i64 10, .int .i64 5, .int .i64 3, .int .i64 8, .int .i64 0, .int .i64 0, .int .i64 0, .int .i64 0] 27 (0, 0)) := by rw [hW1]; exact World.alloc_heap_new _ _
  rw [← hW1]
  have HB_1 := Hd.mk hB
  have HT1_1 := Hd.mk hT1
  clear hW1 hB hT1
  clear hB1
  obtain ⟨c0, c1, c2, c3, c4, c5, c6, c7⟩ := lit8 HT1_1.out
  go_wp2_with fail
  refine (aw_steps1 _ _ (srcLit W1 [(0, 7), (0, -2), (0, 5)] (by decide))).mono ?_
  rintro e w2 ⟨rfl, hB2⟩
  have hX2 := ((Below.refl W1.heap.size W1).alloc (Nat.le_refl _) (.cells #[.int .i64 0, .int .i64 7, .int .i64 0, .int .i64 (-2), .int .i64 0, .int .i64 5] 32)).trans (hB2.mono (by simp))
  clear c0 c1 c2 c3 c4 c5 c6 c7
  go_upto_region 4 with fail
  obtain ⟨W2, hW2⟩ : ∃ W, W = (w2.alloc (.cells #[.int .i64 10, .int .i64 5, .int .i64 3, .int .i64 8, .int .i64 10, .int .i64 0, .int .i64 0, .int .i64 0] 27)).alloc (.cells #[.int .i64 0, .int .i64 7, .int .i64 0, .int .i64 5, .int .i64 0, .int .i64 (-4)] 32) := ⟨_, rfl⟩
  have hX : Below W1.heap.size W1 W2 := by rw [hW2]; exact (hX2.alloc hX2.size _).alloc (by have := hX2.size; simp; omega) _
  have hT3 : W2.heap[w2.heap.size]? = some (.cells #[.int .i64 10, .int .i64 5, .int .i64 3, .int .i64 8, .int .i64 10, .int .i64 0, .int .i64 0, .int .i64 0] 27 (0, 0)) := by rw [hW2]; exact (Below.heap_alloc _ _ _ (by simp)).trans (World.alloc_heap_new _ _)
  have hM : SrcC W2 (.slice (some ⟨w2.heap.size + 1, 0, none⟩) 3 3) [(0, 7), (0, 5), (0, -4)] := by rw [hW2]; exact (by have := srcLit (w2.alloc (.cells #[.int .i64 10, .int .i64 5, .int .i64 3, .int .i64 8, .int .i64 10, .int .i64 0, .int .i64 0, .int .i64 0] 27)) [(0, 7), (0, 5), (0, -4)] (by decide); rw [World.size_alloc] at this; exact this)
  rw [← hW2]
  have HX_2 := Hd.mk hX
  have HT3_2 := Hd.mk hT3
  have HM_2 := Hd.mk hM
  clear hW2 hX hT3 hM
  have HB_2 := Hd.mk (ch4 HB_1.out HX_2.out)
  have HT1_2 := Hd.mk (keep HT1_1.out HX_2.out)
  clear hX2 hB2 HB_1 HT1_1 HX_2
  obtain ⟨c0, c1, c2, c3, c4, c5, c6, c7⟩ := lit8 HT1_2.out
  go_wp2_with fail
  refine (aw_steps2 _ _ HM_2.out).mono ?_
  rintro e w3 ⟨rfl, hB3⟩
  clear c0 c1 c2 c3 c4 c5 c6 c7
  go_upto_region 5 with fail
  obtain ⟨W3, hW3⟩ : ∃ W, W = w3.alloc (.cells #[.int .i64 0, .int .i64 0, .int .i64 0, .int .i64 0, .int .i64 0, .int .i64 0, .int .i64 0, .int .i64 0] 27) := ⟨_, rfl⟩
  have hX : Below W2.heap.size W2 W3 := by rw [hW3]; exact hB3.alloc hB3.size _
  rw [← hW3]
  have HX_3 := Hd.mk hX
  clear hW3 hX
  have HB_3 := Hd.mk (ch4 HB_2.out HX_3.out)
  have HT1_3 := Hd.mk (keep HT1_2.out HX_3.out)
  have HT3_3 := Hd.mk (keep HT3_2.out HX_3.out)
  have HM_3 := Hd.mk (HM_2.out.below HX_3.out)
  clear hB3 HB_2 HT1_2 HT3_2 HM_2 HX_3
  obtain ⟨c0, c1, c2, c3, c4, c5, c6, c7⟩ := lit8 HT1_3.out
  go_wp2_with fail
  refine (aw_barrier _ _ HM_3.out).mono ?_
  rintro e w4 ⟨rfl, hB4⟩
  clear c0 c1 c2 c3 c4 c5 c6 c7
  go_upto_region 6 with fail
  obtain ⟨W4, hW4⟩ : ∃ W, W = w4.alloc (.cells #[.int .i64 10, .int .i64 5, .int .i64 3, .int .i64 8, .int .i64 8, .int .i64 0, .int .i64 0, .int .i64 0] 27) := ⟨_, rfl⟩
  have hX : Below W3.heap.size W3 W4 := by rw [hW4]; exact hB4.alloc hB4.size _
  have hT10 : W4.heap[w4.heap.size]? = some (.cells #[.int .i64 10, .int .i64 5, .int .i64 3, .int .i64 8, .int .i64 8, .int .i64 0, .int .i64 0, .int .i64 0] 27 (0, 0)) := by rw [hW4]; exact World.alloc_heap_new _ _
  rw [← hW4]
  have HX_4 := Hd.mk hX
  have HT10_4 := Hd.mk hT10
  clear hW4 hX hT10
  have HB_4 := Hd.mk (ch4 HB_3.out HX_4.out)
  have HT1_4 := Hd.mk (keep HT1_3.out HX_4.out)
  have HT3_4 := Hd.mk (keep HT3_3.out HX_4.out)
  have HM_4 := Hd.mk (HM_3.out.below HX_4.out)
  clear hB4 HB_3 HT1_3 HT3_3 HM_3 HX_4
  obtain ⟨c0, c1, c2, c3, c4, c5, c6, c7⟩ := lit8 HT1_4.out
  go_wp2_with fail
  refine (aw_steps3 _ _ (srcLit W4 [(2, -1)] (by decide))).mono ?_
  rintro e w5 ⟨rfl, hB5⟩
  have hX5 := ((Below.refl W4.heap.size W4).alloc (Nat.le_refl _) (.cells #[.int .i64 2, .int .i64 (-1)] 32)).trans (hB5.mono (by simp))
  clear c0 c1 c2 c3 c4 c5 c6 c7
  go_upto_region 7 with fail
  obtain ⟨W5, hW5⟩ : ∃ W, W = w5.alloc (.cells #[.int .i64 0, .int .i64 0, .int .i64 0, .int .i64 0, .int .i64 0, .int .i64 0, .int .i64 0, .int .i64 0] 27) := ⟨_, rfl⟩
  have hX : Below W4.heap.size W4 W5 := by rw [hW5]; exact hX5.alloc hX5.size _
  rw [← hW5]
  have HX_5 := Hd.mk hX
  clear hW5 hX
  have HB_5 := Hd.mk (ch4 HB_4.out HX_5.out)
  have HT1_5 := Hd.mk (keep HT1_4.out HX_5.out)
  have HT3_5 := Hd.mk (keep HT3_4.out HX_5.out)
  have HT10_5 := Hd.mk (keep HT10_4.out HX_5.out)
  have HM_5 := Hd.mk (HM_4.out.below HX_5.out)
  clear hB5 hX5 HB_4 HT1_4 HT3_4 HM_4 HX_5 HT10_4
  obtain ⟨c0, c1, c2, c3, c4, c5, c6, c7⟩ := lit8 HT1_5.out
  go_wp2_with fail
  refine (aw_peak _ _ HM_5.out).mono ?_
  rintro e w6 ⟨rfl, hB6⟩
  clear c0 c1 c2 c3 c4 c5 c6 c7
  go_upto_region 8 with fail
  obtain ⟨W6, hW6⟩ : ∃ W, W = w6.alloc (.cells #[.int .i64 12, .int .i64 0, .int .i64 0, .int .i64 0] 25) := ⟨_, rfl⟩
  have hX : Below W5.heap.size W5 W6 := by rw [hW6]; exact hB6.alloc hB6.size _
  have hT16 : W6.heap[w6.heap.size]? = some (.cells #[.int .i64 12, .int .i64 0, .int .i64 0, .int .i64 0] 25 (0, 0)) := by rw [hW6]; exact World.alloc_heap_new _ _
  rw [← hW6]
  have HX_6 := Hd.mk hX
  have HT16_6 := Hd.mk hT16
  clear hW6 hX hT16
  have HB_6 := Hd.mk (ch4 HB_5.out HX_6.out)
  have HT1_6 := Hd.mk (keep HT1_5.out HX_6.out)
  have HT3_6 := Hd.mk (keep HT3_5.out HX_6.out)
  have HT10_6 := Hd.mk (keep HT10_5.out HX_6.out)
  clear hB6 HB_5 HT1_5 HT3_5 HM_5 HX_6 HT10_5
  go_wp2_with fail
  refine (aw_back _ _ (srcLit W6 [(0, 7), (1, -2)] (by decide))).mono ?_
  rintro e w7 ⟨v18, rfl, hK7, hB7⟩
  have hX7 := ((Below.refl W6.heap.size W6).alloc (Nat.le_refl _) (.cells #[.int .i64 0, .int .i64 7, .int .i64 1, .int .i64 (-2)] 32)).trans (hB7.mono (by simp))
  have HK_7 := Hd.mk hK7
  have HB_7 := Hd.mk (ch4 HB_6.out hX7)
  have HT1_7 := Hd.mk (keep HT1_6.out hX7)
  have HT3_7 := Hd.mk (keep HT3_6.out hX7)
  have HT10_7 := Hd.mk (keep HT10_6.out hX7)
  have HT16_7 := Hd.mk (keep HT16_6.out hX7)
  clear hB7 hX7 hK7 HB_6 HT1_6 HT3_6 HT10_6 HT16_6
  obtain ⟨c0, c1, c2, c3, c4, c5, c6, c7⟩ := lit8 HT1_7.out
  go_wp2_with fail
  refine (aw_limit _).mono ?_
  rintro e w8 ⟨rfl, hB8⟩
  clear c0 c1 c2 c3 c4 c5 c6 c7
  go_upto_region 10 with fail
  obtain ⟨W8, hW8⟩ : ∃ W, W = w8.alloc (.cells #[.int .i64 10, .int .i64 5, .int .i64 2, .int .i64 8, .int .i64 0, .int .i64 0, .int .i64 0, .int .i64 0] 27) := ⟨_, rfl⟩
  have hX : Below w7.heap.size w7 W8 := by rw [hW8]; exact hB8.alloc hB8.size _
  have hT20 : W8.heap[w8.heap.size]? = some (.cells #[.int .i64 10, .int .i64 5, .int .i64 2, .int .i64 8, .int .i64 0, .int .i64 0, .int .i64 0, .int .i64 0] 27 (0, 0)) := by rw [hW8]; exact World.alloc_heap_new _ _
  rw [← hW8]
  have HX_8 := Hd.mk hX
  have HT20_8 := Hd.mk hT20
  clear hW8 hX hT20
  have HB_8 := Hd.mk (ch4 HB_7.out HX_8.out)
  have HT1_8 := Hd.mk (keep HT1_7.out HX_8.out)
  have HT3_8 := Hd.mk (keep HT3_7.out HX_8.out)
  have HT10_8 := Hd.mk (keep HT10_7.out HX_8.out)
  have HT16_8 := Hd.mk (keep HT16_7.out HX_8.out)
  have HK_8 := Hd.mk (HK_7.out.below HX_8.out)
  clear hB8 HB_7 HT1_7 HT3_7 HT10_7 HT16_7 HK_7 HX_8
  obtain ⟨c0, c1, c2, c3, c4, c5, c6, c7⟩ := lit8 HT20_8.out
  go_wp2_with fail
  refine (aw_room _).mono ?_
  rintro e w9 ⟨rfl, hB9⟩
  clear c0 c1 c2 c3 c4 c5 c6 c7
  have HB_9 := Hd.mk (ch4 HB_8.out hB9)
  have HT1_9 := Hd.mk (keep HT1_8.out hB9)
  have HT3_9 := Hd.mk (keep HT3_8.out hB9)
  have HT10_9 := Hd.mk (keep HT10_8.out hB9)
  have HT16_9 := Hd.mk (keep HT16_8.out hB9)
  have HK_9 := Hd.mk (HK_8.out.below hB9)
  clear hB9 HB_8 HT1_8 HT3_8 HT10_8 HT16_8 HK_8 HT20_8
  obtain ⟨a0, a1, a2, a3, a4, a5, a6, a7⟩ := lit8 HT1_9.out
  obtain ⟨b0, b1, b2, b3, b4, b5, b6, b7⟩ := lit8 HT3_9.out
  obtain ⟨c0, c1, c2, c3, c4, c5, c6, c7⟩ := lit8 HT10_9.out
  obtain ⟨d0, d1, d2, d3⟩ := lit4 HT16_9.out
  have hS0 : w9.cell? ⟨w1.heap.size, 0, none⟩ = some (.int .i64 10) ∧ w9.cell? ⟨w1.heap.size, 1, none⟩ = some (.int .i64 5) ∧ w9.cell? ⟨w1.heap.size, 2, none⟩ = some (.int .i64 3) ∧ w9.cell? ⟨w1.heap.size, 3, none⟩ = some (.int .i64 8) ∧ w9.cell? ⟨w1.heap.size, 4, none⟩ = some (.int .i64 0) ∧ w9.cell? ⟨w1.heap.size, 5, none⟩ = some (.int .i64 0) ∧ w9.cell? ⟨w1.heap.size, 6, none⟩ = some (.int .i64 0) ∧ w9.cell? ⟨w1.heap.size, 7, none⟩ = some (.int .i64 0) ∧ w9.cell? ⟨w2.heap.size, 0, none⟩ = some (.int .i64 10) ∧ w9.cell? ⟨w2.heap.size, 1, none⟩ = some (.int .i64 5) ∧ w9.cell? ⟨w2.heap.size, 2, none⟩ = some (.int .i64 3) ∧ w9.cell? ⟨w2.heap.size, 3, none⟩ = some (.int .i64 8) ∧ w9.cell? ⟨w2.heap.size, 4, none⟩ = some (.int .i64 10) ∧ w9.cell? ⟨w2.heap.size, 5, none⟩ = some (.int .i64 0) ∧ w9.cell? ⟨w2.heap.size, 6, none⟩ = some (.int .i64 0) ∧ w9.cell? ⟨w2.heap.size, 7, none⟩ = some (.int .i64 0) ∧ w9.cell? ⟨w4.heap.size, 0, none⟩ = some (.int .i64 10) ∧ w9.cell? ⟨w4.heap.size, 1, none⟩ = some (.int .i64 5) ∧ w9.cell? ⟨w4.heap.size, 2, none⟩ = some (.int .i64 3) ∧ w9.cell? ⟨w4.heap.size, 3, none⟩ = some (.int .i64 8) ∧ w9.cell? ⟨w4.heap.size, 4, none⟩ = some (.int .i64 8) ∧ w9.cell? ⟨w4.heap.size, 5, none⟩ = some (.int .i64 0) ∧ w9.cell? ⟨w4.heap.size, 6, none⟩ = some (.int .i64 0) ∧ w9.cell? ⟨w4.heap.size, 7, none⟩ = some (.int .i64 0) ∧ w9.cell? ⟨w6.heap.size, 0, none⟩ = some (.int .i64 12) ∧ w9.cell? ⟨w6.heap.size, 1, none⟩ = some (.int .i64 0) ∧ w9.cell? ⟨w6.heap.size, 2, none⟩ = some (.int .i64 0) ∧ w9.cell? ⟨w6.heap.size, 3, none⟩ = some (.int .i64 0) ∧ SrcC w9 v18 [(1, 2), (0, -7)] ∧ Below w9.heap.size w9 w9 :=
    ⟨a0, a1, a2, a3, a4, a5, a6, a7, b0, b1, b2, b3, b4, b5, b6, b7, c0, c1, c2, c3, c4, c5, c6, c7, d0, d1, d2, d3, HK_9.out, Below.refl _ _⟩
  clear a0 a1 a2 a3 a4 a5 a6 a7
  clear b0 b1 b2 b3 b4 b5 b6 b7
  clear c0 c1 c2 c3 c4 c5 c6 c7
  clear d0 d1 d2 d3
  have eq0 := aw_eqb 0
  have eq10 := aw_eqb 10
  have eq8 := aw_eqb 8
  have eqp := aw_eqp
  clear HT1_9 HT3_9 HT10_9 HT16_9 HK_9
  go_wp2_with fail
  simp only [List.append_eq, List.cons_append, List.nil_append]
  go_region_held3 (fun W => W.cell? ⟨w1.heap.size, 0, none⟩ = some (.int .i64 10) ∧ W.cell? ⟨w1.heap.size, 1, none⟩ = some (.int .i64 5) ∧ W.cell? ⟨w1.heap.size, 2, none⟩ = some (.int .i64 3) ∧ W.cell? ⟨w1.heap.size, 3, none⟩ = some (.int .i64 8) ∧ W.cell? ⟨w1.heap.size, 4, none⟩ = some (.int .i64 0) ∧ W.cell? ⟨w1.heap.size, 5, none⟩ = some (.int .i64 0) ∧ W.cell? ⟨w1.heap.size, 6, none⟩ = some (.int .i64 0) ∧ W.cell? ⟨w1.heap.size, 7, none⟩ = some (.int .i64 0) ∧ W.cell? ⟨w2.heap.size, 0, none⟩ = some (.int .i64 10) ∧ W.cell? ⟨w2.heap.size, 1, none⟩ = some (.int .i64 5) ∧ W.cell? ⟨w2.heap.size, 2, none⟩ = some (.int .i64 3) ∧ W.cell? ⟨w2.heap.size, 3, none⟩ = some (.int .i64 8) ∧ W.cell? ⟨w2.heap.size, 4, none⟩ = some (.int .i64 10) ∧ W.cell? ⟨w2.heap.size, 5, none⟩ = some (.int .i64 0) ∧ W.cell? ⟨w2.heap.size, 6, none⟩ = some (.int .i64 0) ∧ W.cell? ⟨w2.heap.size, 7, none⟩ = some (.int .i64 0) ∧ W.cell? ⟨w4.heap.size, 0, none⟩ = some (.int .i64 10) ∧ W.cell? ⟨w4.heap.size, 1, none⟩ = some (.int .i64 5) ∧ W.cell? ⟨w4.heap.size, 2, none⟩ = some (.int .i64 3) ∧ W.cell? ⟨w4.heap.size, 3, none⟩ = some (.int .i64 8) ∧ W.cell? ⟨w4.heap.size, 4, none⟩ = some (.int .i64 8) ∧ W.cell? ⟨w4.heap.size, 5, none⟩ = some (.int .i64 0) ∧ W.cell? ⟨w4.heap.size, 6, none⟩ = some (.int .i64 0) ∧ W.cell? ⟨w4.heap.size, 7, none⟩ = some (.int .i64 0) ∧ W.cell? ⟨w6.heap.size, 0, none⟩ = some (.int .i64 12) ∧ W.cell? ⟨w6.heap.size, 1, none⟩ = some (.int .i64 0) ∧ W.cell? ⟨w6.heap.size, 2, none⟩ = some (.int .i64 0) ∧ W.cell? ⟨w6.heap.size, 3, none⟩ = some (.int .i64 0) ∧ SrcC W v18 [(1, 2), (0, -7)] ∧ Below w9.heap.size w9 W)
    (first | exact aw_keep (by assumption) ((Below.refl _ _).drew) | exact aw_keep (by assumption) (((Below.refl _ _).alloc (Nat.le_refl _) _).drew) | exact aw_keep (by assumption) ((Below.refl _ _).alloc (Nat.le_refl _) _) | exact aw_keep (by assumption) (by assumption))
    (first
      | (go_at_call 24; refine (aw_bookg _ _ _ ?_).mono ?_; (exact World.alloc_heap_new _ _); rintro e wk ⟨rfl, hBk⟩)
      | (go_at_call 22; refine (aw_name _).mono ?_; rintro e wk ⟨rfl, hBk⟩)
      | (go_at_call 26; refine (equalC_any _ _ [(1, 2), (0, -7)] [(1, 2), (0, -7)] _ ?_ ?_).mono ?_; (first | exact aw_src (by assumption) | exact (aw_src (by assumption)).below ((Below.refl _ _).alloc (Nat.le_refl _) _)); (exact srcAt [(1, 2), (0, -7)] (World.alloc_heap_new _ _) (by decide)); rintro e wk ⟨rfl, hBk⟩; rw [show decide ([((1 : Int), (2 : Int)), (0, -7)] = [(1, 2), (0, -7)]) = true from by decide]))
  all_goals
    have HF : Below w9.heap.size w9 wk := aw_below (by assumption)
    have HF2 := Hd.mk (ch4 HB_9.out HF)
    clear HF
    go_wp2_with fail
    go_ret
    exact ⟨rfl, HF2.out⟩
end Go.Proofs.Ytppfhcocmpmadaa
