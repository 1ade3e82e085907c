/- Get, Place, Places. -/
import Derived.Test.YtinagiofolmhbaaA3
namespace Go.Proofs.Ytinagiofolmhbaa
open Go.RowKit
set_option linter.unusedVariables false
set_option linter.unusedSimpArgs false

theorem set5 {W : World} {b : Nat} {z0 z1 z2 z3 z4 : Value} (h : W.heap[b]? = some (.cells #[z0, z1, z2, z3, z4] 34 (0, 0))) (a0 a1 a2 a3 a4 : Value) :
    (((((W.setCell ⟨b, 0, none⟩ a0).setCell ⟨b, 1, none⟩ a1).setCell ⟨b, 2, none⟩ a2).setCell ⟨b, 3, none⟩ a3).setCell ⟨b, 4, none⟩ a4).heap[b]? = some (.cells #[a0, a1, a2, a3, a4] 34 (0, 0)) :=
  cells_set (o := 4) (cells_set (o := 3) (cells_set (o := 2) (cells_set (o := 1) (cells_set (o := 0) h a0) a1) a2) a3) a4
theorem below5 {B : Nat} {w W : World} (h : Below B w W) {b : Nat} (hb : B ≤ b) (a0 a1 a2 a3 a4 : Value) :
    Below B w (((((W.setCell ⟨b, 0, none⟩ a0).setCell ⟨b, 1, none⟩ a1).setCell ⟨b, 2, none⟩ a2).setCell ⟨b, 3, none⟩ a3).setCell ⟨b, 4, none⟩ a4) :=
  ((((h.setCell (p := ⟨b, 0, none⟩) hb _).setCell (p := ⟨b, 1, none⟩) hb _).setCell (p := ⟨b, 2, none⟩) hb _).setCell (p := ⟨b, 3, none⟩) hb _).setCell (p := ⟨b, 4, none⟩) hb _
set_option maxRecDepth 100000 in
set_option maxHeartbeats 1000000 in
theorem get_any {y : Lay} {w : World} {pr : Nat → Prop} {M : Nat} {st : St} (h : TabL y w pr M st) (s : Int) (hs : -9223372036854775808 ≤ s ∧ s ≤ 9223372036854775807) :
    Calls Try.prog 26 #[.pointer (some ⟨M, 0, none⟩), .int .i64 s] w fun e w' => e = .returned (.tuple #[hV (getV st s), .int .i64 (getE st s)]) ∧ Below w.heap.size w w' := by
  obtain ⟨W1, hW1⟩ : ∃ W, (w.alloc (.cells #[.int .i64 0, .int .i64 0, .int .i64 0, .int .i64 0, .int .u8 0] 34)) = W := ⟨_, rfl⟩
  have hB1 : Below w.heap.size w W1 := by rw [← hW1]; exact (Below.refl _ _).alloc (Nat.le_refl _) _
  have hb1 : W1.heap[w.heap.size]? = some (.cells #[.int .i64 0, .int .i64 0, .int .i64 0, .int .i64 0, .int .u8 0] 34 (0, 0)) := by rw [← hW1]; exact heap_alloc_new _ _
  obtain ⟨R, hR⟩ : ∃ r, w.heap.size = r := ⟨_, rfl⟩
  have h1 := h.below hB1
  obtain ⟨L, hm, hl, _⟩ := h1.mlen
  obtain ⟨l, hk⟩ := key3 hs
  have hlook := hm.look keyed3 kI_inj Try.underlying66 (Try.zeroValue34 W1) s hk true
  rw [hl] at hlook
  have H := Hd.mk (is_at h1.t0)
  have HW1 : Hd (w.alloc (.cells #[.int .i64 0, .int .i64 0, .int .i64 0, .int .i64 0, .int .u8 0] 34) = W1) := ⟨hW1⟩
  rw [hR] at hb1
  have HB1 := Hd.mk hB1
  have HX1 := Hd.mk hb1
  have HR := Hd.mk hR
  have HS1 : Hd (W1.heap.size = R + 1) := ⟨by rw [← hW1, ← hR]; simp⟩
  have q0 := cells_cell hb1 0
  have q1 := cells_cell hb1 1
  have q2 := cells_cell hb1 2
  have q3 := cells_cell hb1 3
  have q4 := cells_cell hb1 4
  have f0 := cells_free hb1 0
  have f1 := cells_free hb1 1
  have f2 := cells_free hb1 2
  have f3 := cells_free hb1 3
  have f4 := cells_free hb1 4
  simp only [List.getElem?_toArray, List.getElem?_cons_zero, List.getElem?_cons_succ] at q0 q1 q2 q3 q4
  have t2 := h1.t2
  have hRW : R < W1.heap.size := lt_heap hb1
  rcases hlook with ⟨hg, hrun0⟩ | ⟨x, hg, hrun0⟩
  · have e1 : getE st s = 6 := by unfold getE; rw [hg]; rfl
    have e2 : getV st s = hn0 := by unfold getV; rw [hg]; rfl
    have hrun : (Instr.lookup 66 (.map (some y.mb)) (.int .i64 s) true).run Try.prog W1 = .ok (.tuple #[.agg #[.int .i64 0, .int .i64 0, .int .i64 0, .int .i64 0, .int .u8 0], .bool false]) W1 := hrun0
    clear hrun0
    rw [e1, e2]
    clear h h1 hm hl hk hW1 hB1 hb1 hR hg e1 e2
    go_enter Try.func26, Try.ntmps26
    go_upto_region 1 with fail
    rw [HW1.out]
    try rw [HR.out]
    go_wp2_with fail
    refine H.out.mono ?_
    rintro e w1 ⟨rfl, rfl⟩
    clear q0 q1 q2 q3 q4 f0 f1 f2 f3 f4
    go_upto_region 4 with fail
    obtain ⟨W2, hW2⟩ : ∃ W, (W1.alloc (.cells #[.int .i64 0, .int .i64 0, .int .i64 0, .int .i64 0, .int .u8 0] 34)) = W := ⟨_, rfl⟩
    have hb2 : W2.heap[R]? = some (.cells #[.int .i64 0, .int .i64 0, .int .i64 0, .int .i64 0, .int .u8 0] 34 (0, 0)) := by rw [← hW2]; exact (Below.heap_alloc _ _ _ hRW).trans HX1.out
    have hn2 : W2.heap[W1.heap.size]? = some (.cells #[.int .i64 0, .int .i64 0, .int .i64 0, .int .i64 0, .int .u8 0] 34 (0, 0)) := by rw [← hW2]; exact heap_alloc_new _ _
    have hB2 : Below w.heap.size w W2 := by rw [← hW2]; exact HB1.out.alloc HB1.out.size _
    have HB2 := Hd.mk hB2
    have HX2 := Hd.mk hb2
    rw [hW2]
    try rw [HS1.out]
    rw [HS1.out] at hn2
    have q0 := cells_cell hb2 0
    have q1 := cells_cell hb2 1
    have q2 := cells_cell hb2 2
    have q3 := cells_cell hb2 3
    have q4 := cells_cell hb2 4
    have f0 := cells_free hb2 0
    have f1 := cells_free hb2 1
    have f2 := cells_free hb2 2
    have f3 := cells_free hb2 3
    have f4 := cells_free hb2 4
    have p0 := cells_cell hn2 0
    have p1 := cells_cell hn2 1
    have p2 := cells_cell hn2 2
    have p3 := cells_cell hn2 3
    have p4 := cells_cell hn2 4
    simp only [List.getElem?_toArray, List.getElem?_cons_zero, List.getElem?_cons_succ] at q0 q1 q2 q3 q4 p0 p1 p2 p3 p4
    clear hW2 hb2 hn2 hB2 hrun t2
    go_wp2_with fail
    refine bodyPost_ret (results_cell_row2 Try.results26 _ _ R 34 #[.int .i64 0, .int .i64 0, .int .i64 0, .int .i64 0, .int .u8 0] (0, 0) _ rfl (set5 HX2.out _ _ _ _ _) Try.underlying34 rfl (by kernel_rfl)) rfl ?_
    exact ⟨rfl, below5 HB2.out (Nat.le_of_eq HR.out) _ _ _ _ _⟩
  · have e1 : getE st s = 0 := by unfold getE; rw [hg]; rfl
    have e2 : getV st s = x := by unfold getV; rw [hg]; rfl
    obtain ⟨x0, x1, x2, x3, x4⟩ := x
    have hrun : (Instr.lookup 66 (.map (some y.mb)) (.int .i64 s) true).run Try.prog W1 = .ok (.tuple #[.agg #[.int .i64 x0, .int .i64 x1, .int .i64 x2, .int .i64 x3, h8 x4], .bool true]) W1 := hrun0
    clear hrun0
    rw [e1, e2]
    clear h h1 hm hl hk hW1 hB1 hb1 hR hg e1 e2
    go_enter Try.func26, Try.ntmps26
    go_upto_region 1 with fail
    rw [HW1.out]
    try rw [HR.out]
    go_wp2_with fail
    refine H.out.mono ?_
    rintro e w1 ⟨rfl, rfl⟩
    clear q0 q1 q2 q3 q4 f0 f1 f2 f3 f4
    go_upto_region 4 with fail
    obtain ⟨W2, hW2⟩ : ∃ W, (W1.alloc (.cells #[.int .i64 x0, .int .i64 x1, .int .i64 x2, .int .i64 x3, h8 x4] 34)) = W := ⟨_, rfl⟩
    have hb2 : W2.heap[R]? = some (.cells #[.int .i64 0, .int .i64 0, .int .i64 0, .int .i64 0, .int .u8 0] 34 (0, 0)) := by rw [← hW2]; exact (Below.heap_alloc _ _ _ hRW).trans HX1.out
    have hn2 : W2.heap[W1.heap.size]? = some (.cells #[.int .i64 x0, .int .i64 x1, .int .i64 x2, .int .i64 x3, h8 x4] 34 (0, 0)) := by rw [← hW2]; exact heap_alloc_new _ _
    have hB2 : Below w.heap.size w W2 := by rw [← hW2]; exact HB1.out.alloc HB1.out.size _
    have HB2 := Hd.mk hB2
    have HX2 := Hd.mk hb2
    rw [hW2]
    try rw [HS1.out]
    rw [HS1.out] at hn2
    have q0 := cells_cell hb2 0
    have q1 := cells_cell hb2 1
    have q2 := cells_cell hb2 2
    have q3 := cells_cell hb2 3
    have q4 := cells_cell hb2 4
    have f0 := cells_free hb2 0
    have f1 := cells_free hb2 1
    have f2 := cells_free hb2 2
    have f3 := cells_free hb2 3
    have f4 := cells_free hb2 4
    have p0 := cells_cell hn2 0
    have p1 := cells_cell hn2 1
    have p2 := cells_cell hn2 2
    have p3 := cells_cell hn2 3
    have p4 := cells_cell hn2 4
    simp only [List.getElem?_toArray, List.getElem?_cons_zero, List.getElem?_cons_succ] at q0 q1 q2 q3 q4 p0 p1 p2 p3 p4
    clear hW2 hb2 hn2 hB2 hrun t2
    go_wp2_with fail
    refine bodyPost_ret (results_cell_row2 Try.results26 _ _ R 34 #[.int .i64 x0, .int .i64 x1, .int .i64 x2, .int .i64 x3, h8 x4] (0, 0) _ rfl (set5 HX2.out (.int .i64 x0) (.int .i64 x1) (.int .i64 x2) (.int .i64 x3) (h8 x4)) Try.underlying34 rfl (by kernel_rfl)) rfl ?_
    exact ⟨rfl, below5 HB2.out (Nat.le_of_eq HR.out) _ _ _ _ _⟩
end Go.Proofs.Ytinagiofolmhbaa
