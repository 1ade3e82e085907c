/- Memories that are none: what all functions give. -/
import Derived.Test.YtnhkadknibinfaaT4
namespace Go.Proofs.Ytnhkadknibinfaa
open Go.RowKit
set_option linter.unusedVariables false
set_option linter.unusedSimpArgs false

/-- A memory that is none. -/
def NoM (w : World) (v : Value) : Prop := v = .pointer none ∨ ∃ b, v = .pointer (some ⟨b, 0, none⟩) ∧ b < w.heap.size ∧ w.cell? ⟨b, 0, none⟩ = some (.bool false)
theorem NoM.below {w w' : World} {v : Value} (h : NoM w v) (hB : Below w.heap.size w w') : NoM w' v := by
  rcases h with h | ⟨b, h, hb, hc⟩
  · exact .inl h
  · exact .inr ⟨b, h, Nat.lt_of_lt_of_le hb hB.size, (hB.cell (p := ⟨b, 0, none⟩) hb).trans hc⟩
theorem no_is {w : World} {v : Value} (h : NoM w v) : Calls Try.prog 31 #[v] w fun e w' => e = .returned (.bool false) ∧ w = w' := by
  rcases h with rfl | ⟨b, rfl, hb, hc⟩
  · go_enter Try.func31, Try.ntmps31
    go_wp2_with fail
    refine bodyPost_ret (results_tmp Try.results31 _ _ _) rfl ?_
    exact ⟨rfl, rfl⟩
  · go_enter Try.func31, Try.ntmps31
    go_wp2_with fail
    refine bodyPost_ret (results_tmp Try.results31 _ _ _) rfl ?_
    exact ⟨rfl, rfl⟩
theorem no_owner {w : World} {v : Value} (h : NoM w v) (o : Int) : Calls Try.prog 34 #[v, .int .i64 o] w fun e w' => e = .returned (.tuple #[.slice none 0 0, .int .i64 1]) ∧ w = w' := by
  have H := Hd.mk (no_is h)
  clear h
  go_enter Try.func34, Try.ntmps34
  go_wp2_with fail
  refine H.out.mono ?_
  rintro e w1 ⟨rfl, rfl⟩
  go_wp2_with fail
  refine bodyPost_ret (results_tmp2 Try.results34 _ _ _) rfl ?_
  exact ⟨rfl, rfl⟩
theorem no_load {w : World} {v : Value} (h : NoM w v) (o i : Int) : Calls Try.prog 21 #[v, .int .i64 o, .int .i64 i] w fun e w' => e = .returned (.tuple #[.int .i64 0, .int .i64 1]) ∧ w = w' := by
  have H := Hd.mk (no_owner h o)
  clear h
  go_enter Try.func21, Try.ntmps21
  go_wp2_with fail
  refine H.out.mono ?_
  rintro e w1 ⟨rfl, rfl⟩
  go_wp2_with fail
  refine bodyPost_ret (results_tmp2 Try.results21 _ _ _) rfl ?_
  exact ⟨rfl, rfl⟩
theorem no_store {w : World} {v : Value} (h : NoM w v) (o i x : Int) : Calls Try.prog 24 #[v, .int .i64 o, .int .i64 i, .int .i64 x] w fun e w' => e = .returned (.tuple #[.int .i64 0, .int .i64 1]) ∧ w = w' := by
  have H := Hd.mk (no_load h o i)
  clear h
  go_enter Try.func24, Try.ntmps24
  go_wp2_with fail
  refine H.out.mono ?_
  rintro e w1 ⟨rfl, rfl⟩
  go_wp2_with fail
  refine bodyPost_ret (results_tmp2 Try.results24 _ _ _) rfl ?_
  exact ⟨rfl, rfl⟩
theorem no_mark {w : World} {v : Value} (h : NoM w v) : Calls Try.prog 16 #[v] w fun e w' => e = .returned (.tuple #[.int .i64 0, .int .i64 1]) ∧ w = w' := by
  have H := Hd.mk (no_is h)
  clear h
  go_enter Try.func16, Try.ntmps16
  go_wp2_with fail
  refine H.out.mono ?_
  rintro e w1 ⟨rfl, rfl⟩
  go_wp2_with fail
  refine bodyPost_ret (results_tmp2 Try.results16 _ _ _) rfl ?_
  exact ⟨rfl, rfl⟩
theorem no_marks {w : World} {v : Value} (h : NoM w v) : Calls Try.prog 14 #[v] w fun e w' => e = .returned (.int .i64 0) ∧ w = w' := by
  have H := Hd.mk (no_is h)
  clear h
  go_enter Try.func14, Try.ntmps14
  go_wp2_with fail
  refine H.out.mono ?_
  rintro e w1 ⟨rfl, rfl⟩
  go_wp2_with fail
  refine bodyPost_ret (results_tmp Try.results14 _ _ _) rfl ?_
  exact ⟨rfl, rfl⟩
theorem no_plan {w : World} {v : Value} (h : NoM w v) : Calls Try.prog 22 #[v] w fun e w' => e = .returned (.slice none 0 0) ∧ w = w' := by
  have H := Hd.mk (no_is h)
  clear h
  go_enter Try.func22, Try.ntmps22
  go_wp2_with fail
  refine H.out.mono ?_
  rintro e w1 ⟨rfl, rfl⟩
  go_wp2_with fail
  refine bodyPost_ret (results_tmp Try.results22 _ _ _) rfl ?_
  exact ⟨rfl, rfl⟩
theorem no_copy {w : World} {v : Value} (h : NoM w v) : Calls Try.prog 30 #[v] w fun e w' => e = .returned (.pointer none) ∧ w = w' := by
  have H := Hd.mk (no_is h)
  clear h
  go_enter Try.func30, Try.ntmps30
  go_wp2_with fail
  refine H.out.mono ?_
  rintro e w1 ⟨rfl, rfl⟩
  go_wp2_with fail
  refine bodyPost_ret (results_tmp Try.results30 _ _ _) rfl ?_
  exact ⟨rfl, rfl⟩
theorem no_changes {w : World} {v : Value} (h : NoM w v) : Calls Try.prog 15 #[v] w fun e w' => e = .returned (.slice none 0 0) ∧ Below w.heap.size w w' := by
  have hB := (Below.refl w.heap.size w).alloc (Nat.le_refl _) (.cells #[v] 24)
  have H := Hd.mk (no_is (h.below hB))
  have hone : v.oneCell' = true := by rcases h with rfl | ⟨b, rfl, _⟩ <;> rfl
  have HB := Hd.mk hB
  rcases h with rfl | ⟨b, rfl, _⟩
  all_goals
    clear hB hone
    go_enter Try.func15, Try.ntmps15
    go_wp2_with fail
    refine H.out.mono ?_
    rintro e w1 ⟨rfl, rfl⟩
    go_wp2_with fail
    refine bodyPost_ret (results_tmp Try.results15 _ _ _) rfl ?_
    exact ⟨rfl, HB.out⟩
theorem no_all {w : World} {v : Value} (h : NoM w v) (o : Int) : Calls Try.prog 25 #[v, .int .i64 o] w fun e w' => ∃ x, e = .returned (.tuple #[x, .int .i64 1]) ∧ Below w.heap.size w w' := by
  have H := Hd.mk (no_owner h o)
  have HC := Hd.mk (clone_app28 _ _ w (SrcI.nil w) (by simp))
  clear h
  go_enter Try.func25, Try.ntmps25
  go_wp2_with fail
  refine H.out.mono ?_
  rintro e w1 ⟨rfl, rfl⟩
  go_wp2_with fail
  refine HC.out.mono ?_
  rintro e w2 ⟨v, rfl, hO, hB⟩
  have HB := Hd.mk hB
  clear hO hB
  go_wp2_with fail
  refine bodyPost_ret (results_tmp2 Try.results25 _ _ _) rfl ?_
  exact ⟨_, rfl, HB.out⟩
theorem no_pop {w : World} {v : Value} (h : NoM w v) : Calls Try.prog 33 #[v] w fun e w' => e = .returned (.tuple #[.agg #[.map none], .int .i64 1]) ∧ Below w.heap.size w w' := by
  have hB := (Below.refl w.heap.size w).alloc (Nat.le_refl _) (.cells #[.map none] 78)
  have h1 := h.below hB
  have hR := heap_alloc_new w (.cells #[.map none] 78)
  obtain ⟨wa, hwa⟩ : ∃ W, w.alloc (.cells #[.map none] 78) = W := ⟨_, rfl⟩
  rw [hwa] at h1 hB hR
  have H := Hd.mk (no_is h1)
  have HB := Hd.mk hB
  have HR := Hd.mk hR
  have cR := cells_cell hR 0
  have fR := cells_free hR 0
  clear h h1 hB hR
  go_enter Try.func33, Try.ntmps33
  go_upto_region 1 with fail
  try rw [hwa]
  clear hwa
  go_wp2_with fail
  refine H.out.mono ?_
  rintro e w1 ⟨rfl, rfl⟩
  go_wp2_with fail
  refine bodyPost_ret (results_cell_row2 Try.results33 _ _ w.heap.size 78 #[.map none] (0, 0) _ rfl (cells_set (o := 0) HR.out (.map none)) Try.underlying78 rfl (by kernel_rfl)) rfl ?_
  exact ⟨rfl, Below.setCell HB.out (p := ⟨w.heap.size, 0, none⟩) (Nat.le_refl _) _⟩
theorem no_back {w : World} {v : Value} (h : NoM w v) : Calls Try.prog 17 #[v] w fun e w' => e = .returned (.tuple #[.int .i64 0, .int .i64 1]) ∧ Below w.heap.size w w' := by
  have H := Hd.mk (no_pop h)
  clear h
  go_enter Try.func17, Try.ntmps17
  go_wp2_with fail
  refine H.out.mono ?_
  rintro e w1 ⟨rfl, hB⟩
  have HB := Hd.mk (hB.alloc hB.size (.cells #[.map none] 78))
  clear hB
  go_wp2_with fail
  refine bodyPost_ret (results_tmp2 Try.results17 _ _ _) rfl ?_
  exact ⟨rfl, HB.out⟩
theorem no_keep {w : World} {v : Value} (h : NoM w v) : Calls Try.prog 20 #[v] w fun e w' => e = .returned (.tuple #[.int .i64 0, .int .i64 1]) ∧ Below w.heap.size w w' := by
  have H := Hd.mk (no_pop h)
  clear h
  go_enter Try.func20, Try.ntmps20
  go_wp2_with fail
  refine H.out.mono ?_
  rintro e w1 ⟨rfl, hB⟩
  have HB := Hd.mk (hB.alloc hB.size (.cells #[.map none] 78))
  clear hB
  go_wp2_with fail
  refine bodyPost_ret (results_tmp2 Try.results20 _ _ _) rfl ?_
  exact ⟨rfl, HB.out⟩
end Go.Proofs.Ytnhkadknibinfaa
