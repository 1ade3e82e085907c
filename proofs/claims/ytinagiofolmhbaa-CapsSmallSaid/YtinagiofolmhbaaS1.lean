/- Tables that are none: what all functions give. -/
import Derived.Test.YtinagiofolmhbaaT3
namespace Go.Proofs.Ytinagiofolmhbaa
open Go.RowKit
set_option linter.unusedVariables false
set_option linter.unusedSimpArgs false


/-- A table that is none. -/
def NoM (w : World) (v : Value) : Prop := v = .pointer none ∨ ∃ b, v = .pointer (some ⟨b, 0, none⟩) ∧ b < w.heap.size ∧ w.cell? ⟨b, 0, none⟩ = some (.bool false)
theorem NoM.below {w w' : World} {v : Value} (h : NoM w v) (hB : Below w.heap.size w w') : NoM w' v := by
  rcases h with h | ⟨b, h, hb, hc⟩
  · exact .inl h
  · exact .inr ⟨b, h, Nat.lt_of_lt_of_le hb hB.size, (hB.cell (p := ⟨b, 0, none⟩) hb).trans hc⟩
theorem no_is {w : World} {v : Value} (h : NoM w v) : Calls Try.prog 37 #[v] w fun e w' => e = .returned (.bool false) ∧ w = w' := by
  rcases h with rfl | ⟨b, rfl, hb, hc⟩
  · go_enter Try.func37, Try.ntmps37
    go_wp2_with fail
    refine bodyPost_ret (results_tmp Try.results37 _ _ _) rfl ?_
    exact ⟨rfl, rfl⟩
  · go_enter Try.func37, Try.ntmps37
    go_wp2_with fail
    refine bodyPost_ret (results_tmp Try.results37 _ _ _) rfl ?_
    exact ⟨rfl, rfl⟩
theorem no_root {w : World} {v : Value} (h : NoM w v) (p tw : Int) (r : BitVec 8) : Calls Try.prog 28 #[v, .int .i64 p, .int .i64 tw, h8 r] w fun e w' => e = .returned (.tuple #[.int .i64 0, .int .i64 1]) ∧ w = w' := by
  have H := Hd.mk (no_is h)
  clear h
  go_enter Try.func28, Try.ntmps28
  go_wp2_with fail
  refine H.out.mono ?_
  rintro e w1 ⟨rfl, rfl⟩
  go_wp2_with fail
  refine bodyPost_ret (results_tmp2 Try.results28 _ _ _) rfl ?_
  exact ⟨rfl, rfl⟩
theorem no_places {w : World} {v : Value} (h : NoM w v) (p : Int) : Calls Try.prog 30 #[v, .int .i64 p] w fun e w' => e = .returned (.slice none 0 0) ∧ w = w' := by
  have H := Hd.mk (no_is h)
  clear h
  go_enter Try.func30, Try.ntmps30
  go_wp2_with fail
  refine H.out.mono ?_
  rintro e w1 ⟨rfl, rfl⟩
  go_wp2_with fail
  refine bodyPost_ret (results_tmp Try.results30 _ _ _) rfl ?_
  exact ⟨rfl, rfl⟩
theorem no_all {w : World} {v : Value} (h : NoM w v) : Calls Try.prog 14 #[v] w fun e w' => e = .returned (.slice none 0 0) ∧ w = w' := by
  have H := Hd.mk (no_is h)
  clear h
  go_enter Try.func14, Try.ntmps14
  go_wp2_with fail
  refine H.out.mono ?_
  rintro e w1 ⟨rfl, rfl⟩
  go_wp2_with fail
  refine bodyPost_ret (results_tmp Try.results14 _ _ _) rfl ?_
  exact ⟨rfl, rfl⟩
theorem no_next {w : World} {v : Value} (h : NoM w v) : Calls Try.prog 20 #[v] w fun e w' => e = .returned (.int .i64 0) ∧ w = w' := by
  have H := Hd.mk (no_is h)
  clear h
  go_enter Try.func20, Try.ntmps20
  go_wp2_with fail
  refine H.out.mono ?_
  rintro e w1 ⟨rfl, rfl⟩
  go_wp2_with fail
  refine bodyPost_ret (results_tmp Try.results20 _ _ _) rfl ?_
  exact ⟨rfl, rfl⟩
theorem no_len {w : World} {v : Value} (h : NoM w v) : Calls Try.prog 24 #[v] w fun e w' => e = .returned (.int .i64 0) ∧ w = w' := by
  have H := Hd.mk (no_is h)
  clear h
  go_enter Try.func24, Try.ntmps24
  go_wp2_with fail
  refine H.out.mono ?_
  rintro e w1 ⟨rfl, rfl⟩
  go_wp2_with fail
  refine bodyPost_ret (results_tmp Try.results24 _ _ _) rfl ?_
  exact ⟨rfl, rfl⟩
theorem no_copy {w : World} {v : Value} (h : NoM w v) : Calls Try.prog 13 #[v] w fun e w' => e = .returned (.pointer none) ∧ w = w' := by
  have H := Hd.mk (no_is h)
  clear h
  go_enter Try.func13, Try.ntmps13
  go_wp2_with fail
  refine H.out.mono ?_
  rintro e w1 ⟨rfl, rfl⟩
  go_wp2_with fail
  refine bodyPost_ret (results_tmp Try.results13 _ _ _) rfl ?_
  exact ⟨rfl, rfl⟩
theorem no_get {w : World} {v : Value} (h : NoM w v) (s : Int) : Calls Try.prog 26 #[v, .int .i64 s] w fun e w' => e = .returned (.tuple #[.agg #[.int .i64 0, .int .i64 0, .int .i64 0, .int .i64 0, h8 0#8], .int .i64 1]) ∧ Below w.heap.size w w' := by
  obtain ⟨W1, hW1⟩ : ∃ W, (w.alloc (.cells #[.int .i64 0, .int .i64 0, .int .i64 0, .int .i64 0, .int .u8 0] 34)) = W := ⟨_, rfl⟩
  have hB1 : Below w.heap.size w W1 := by rw [← hW1]; exact (Below.refl _ _).alloc (Nat.le_refl _) _
  have hb1 : W1.heap[w.heap.size]? = some (.cells #[.int .i64 0, .int .i64 0, .int .i64 0, .int .i64 0, .int .u8 0] 34 (0, 0)) := by rw [← hW1]; exact heap_alloc_new _ _
  have H := Hd.mk (no_is (h.below hB1))
  have HB1 := Hd.mk hB1
  have HX1 := Hd.mk hb1
  have HW1 := Hd.mk hW1
  have q0 := cells_cell hb1 0
  have f0 := cells_free hb1 0
  have q1 := cells_cell hb1 1
  have f1 := cells_free hb1 1
  have q2 := cells_cell hb1 2
  have f2 := cells_free hb1 2
  have q3 := cells_cell hb1 3
  have f3 := cells_free hb1 3
  have q4 := cells_cell hb1 4
  have f4 := cells_free hb1 4
  simp only [List.getElem?_toArray, List.getElem?_cons_zero, List.getElem?_cons_succ] at q0 q1 q2 q3 q4
  clear h hW1 hB1 hb1
  go_enter Try.func26, Try.ntmps26
  go_upto_region 1 with fail
  rw [HW1.out]
  go_wp2_with fail
  refine H.out.mono ?_
  rintro e w1 ⟨rfl, rfl⟩
  go_wp2_with fail
  refine bodyPost_ret (results_cell_row2 Try.results26 _ _ w.heap.size 34 #[.int .i64 0, .int .i64 0, .int .i64 0, .int .i64 0, .int .u8 0] (0, 0) _ rfl (set5 HX1.out _ _ _ _ _) Try.underlying34 rfl (by kernel_rfl)) rfl ?_
  exact ⟨rfl, below5 HB1.out (Nat.le_refl _) _ _ _ _ _⟩
theorem no_place {w : World} {v : Value} (h : NoM w v) (p i : Int) : Calls Try.prog 29 #[v, .int .i64 p, .int .i64 i] w fun e w' => e = .returned (.tuple #[.agg #[.int .i64 0, .int .i64 0, .int .i64 0, .int .i64 0, h8 0#8], .int .i64 1]) ∧ Below w.heap.size w w' := by
  obtain ⟨W1, hW1⟩ : ∃ W, (w.alloc (.cells #[.int .i64 0, .int .i64 0, .int .i64 0, .int .i64 0, .int .u8 0] 34)) = W := ⟨_, rfl⟩
  have hB1 : Below w.heap.size w W1 := by rw [← hW1]; exact (Below.refl _ _).alloc (Nat.le_refl _) _
  have hb1 : W1.heap[w.heap.size]? = some (.cells #[.int .i64 0, .int .i64 0, .int .i64 0, .int .i64 0, .int .u8 0] 34 (0, 0)) := by rw [← hW1]; exact heap_alloc_new _ _
  have H := Hd.mk (no_is (h.below hB1))
  have HB1 := Hd.mk hB1
  have HX1 := Hd.mk hb1
  have HW1 := Hd.mk hW1
  have q0 := cells_cell hb1 0
  have f0 := cells_free hb1 0
  have q1 := cells_cell hb1 1
  have f1 := cells_free hb1 1
  have q2 := cells_cell hb1 2
  have f2 := cells_free hb1 2
  have q3 := cells_cell hb1 3
  have f3 := cells_free hb1 3
  have q4 := cells_cell hb1 4
  have f4 := cells_free hb1 4
  simp only [List.getElem?_toArray, List.getElem?_cons_zero, List.getElem?_cons_succ] at q0 q1 q2 q3 q4
  clear h hW1 hB1 hb1
  go_enter Try.func29, Try.ntmps29
  go_upto_region 1 with fail
  rw [HW1.out]
  go_wp2_with fail
  refine H.out.mono ?_
  rintro e w1 ⟨rfl, rfl⟩
  go_wp2_with fail
  refine bodyPost_ret (results_cell_row2 Try.results29 _ _ w.heap.size 34 #[.int .i64 0, .int .i64 0, .int .i64 0, .int .i64 0, .int .u8 0] (0, 0) _ rfl (set5 HX1.out _ _ _ _ _) Try.underlying34 rfl (by kernel_rfl)) rfl ?_
  exact ⟨rfl, below5 HB1.out (Nat.le_refl _) _ _ _ _ _⟩
theorem no_der {w : World} {v : Value} (h : NoM w v) (s tw : Int) (r : BitVec 8) : Calls Try.prog 25 #[v, .int .i64 s, .int .i64 tw, h8 r] w fun e w' => e = .returned (.tuple #[.int .i64 0, .int .i64 1]) ∧ Below w.heap.size w w' := by
  have H := Hd.mk (no_get h s)
  clear h
  go_enter Try.func25, Try.ntmps25
  go_wp2_with fail
  refine H.out.mono ?_
  rintro e w1 ⟨rfl, hB⟩
  have HB := Hd.mk (hB.alloc hB.size (.cells #[.int .i64 0, .int .i64 0, .int .i64 0, .int .i64 0, h8 0#8] 34))
  clear hB
  go_wp2_with fail
  refine bodyPost_ret (results_tmp2 Try.results25 _ _ _) rfl ?_
  exact ⟨rfl, HB.out⟩
theorem no_below {w : World} {v : Value} (h : NoM w v) (s : Int) : Calls Try.prog 27 #[v, .int .i64 s] w fun e w' => e = .returned (.tuple #[.slice none 0 0, .int .i64 1]) ∧ Below w.heap.size w w' := by
  have hB := (Below.refl w.heap.size w).alloc (Nat.le_refl _) (.cells #[v] 24)
  have H := Hd.mk (no_get (h.below hB) s)
  have hone : v.oneCell' = true := by rcases h with rfl | ⟨b, rfl, _⟩ <;> rfl
  have HB0 := Hd.mk hB
  rcases h with rfl | ⟨b, rfl, _⟩
  all_goals
    clear hB hone
    go_enter Try.func27, Try.ntmps27
    go_wp2_with fail
    refine H.out.mono ?_
    rintro e w1 ⟨rfl, hB⟩
    have HB := Hd.mk ((HB0.out.trans (hB.mono HB0.out.size)).alloc (Nat.le_trans HB0.out.size hB.size) (.cells #[.int .i64 0, .int .i64 0, .int .i64 0, .int .i64 0, h8 0#8] 34))
    clear hB
    go_wp2_with fail
    refine bodyPost_ret (results_tmp2 Try.results27 _ _ _) rfl ?_
    exact ⟨rfl, HB.out⟩
theorem no_revoke {w : World} {v : Value} (h : NoM w v) (s : Int) : Calls Try.prog 17 #[v, .int .i64 s] w fun e w' => e = .returned (.tuple #[.slice none 0 0, .int .i64 1]) ∧ Below w.heap.size w w' := by
  have H := Hd.mk (no_below h s)
  clear h
  go_enter Try.func17, Try.ntmps17
  go_wp2_with fail
  refine H.out.mono ?_
  rintro e w1 ⟨rfl, hB⟩
  have HB := Hd.mk hB
  clear hB
  go_wp2_with fail
  go_loopw [18] (fun i W => i = .int .i64 0 ∧ W = w1) (fun _ _ => 0)
  case atStart => exact ⟨rfl, rfl⟩
  case round =>
    obtain ⟨rfl, rfl⟩ := hrel
    go_wp2_with fail
    refine bodyPost_ret (results_tmp2 Try.results17 _ _ _) rfl ?_
    exact ⟨rfl, HB.out⟩
theorem no_close {w : World} {v : Value} (h : NoM w v) (p : Int) : Calls Try.prog 15 #[v, .int .i64 p] w fun e w' => e = .returned (.slice none 0 0) ∧ w = w' := by
  have H := Hd.mk (no_all h)
  clear h
  go_enter Try.func15, Try.ntmps15
  go_wp2_with fail
  refine H.out.mono ?_
  rintro e w1 ⟨rfl, rfl⟩
  go_wp2_with fail
  go_loopw [5, 11] (fun q i W => q = .slice none 0 0 ∧ i = .int .i64 0 ∧ W = w) (fun _ _ _ => 0)
  case atStart => exact ⟨rfl, rfl, rfl⟩
  case round =>
    obtain ⟨rfl, rfl, rfl⟩ := hrel
    go_wp2_with fail
    refine bodyPost_ret (results_tmp Try.results15 _ _ _) rfl ?_
    exact ⟨rfl, rfl⟩

end Go.Proofs.Ytinagiofolmhbaa
